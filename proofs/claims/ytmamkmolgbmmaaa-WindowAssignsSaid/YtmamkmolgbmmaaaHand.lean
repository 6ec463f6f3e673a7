/- Small lemmas for walks by hand: a call of a function value. Lemmas alone. -/
import Derived.Test.YtmamkmolgbmmaaaWLast
import Derived.Test.YtmamkmolgbmmaaaWWords
import Derived.Test.YtmamkmolgbmmaaaWMore
import Derived.Test.YtmamkmolgbmmaaaWN
import Derived.WalkKit
namespace Go.Proofs.Ytmamkmolgbmmaaa.Hand
open Go.RowKit Go.Proofs.YtmamkmolgbmmaaaW.PrintWords Go.Proofs.YtmamkmolgbmmaaaW.PrintLast
section
variable {P : Program} {ops : Array Oper} {Q : Exit → Act → World → Prop}
/-- A call of a function value that lies in a slot. -/
theorem goesV_ {rest : List Oper} {oi : Oper} {a : Act} {w : World} (N : Option Tmp) (hd : oi.dst = N) (hg : oi.guard = none) {f : FuncId} {fn : Func} {t : Tmp} {as : Array Operand} {ts : Array TypeId} {cap : Array Value} (hf : P.funcs[f]? = some fn) (hname : (fn.name == "runtime.NumGoroutine") = false) (hb : fn.body.isSome = true) (args : Array Value)
    (hop : oi.op = .call { callee := .value (.tmp t), args := as, argTypes := ts }) (hv : a.eval (.tmp t) = .func (.func f) #[] cap) (hargs : as.map a.eval ++ cap = args)
    (h : Calls P f args w fun e w' => ∃ v, e = .returned v ∧ wpList P ops Q rest (a.put N v) w') : wpList P ops Q (oi :: rest) a w := by
  refine wpList_plain hg fun K hK => ?_
  have he := enters_ hf hname hb args w
  have hrun : (execOp a.eval oi).run P w = .ok (.enter f args) w := by
    unfold execOp
    simp [hop, resolve, hv, Deferred.ofValue, invoke, hargs, he]
  unfold Oper.wp
  rw [hrun, Oper.upon_enter]
  refine h.mono fun e w'' hh => ?_
  obtain ⟨v, rfl, hk⟩ := hh
  subst hd
  exact hK _ _ hk
end
theorem less_turned : ∀ x y : List UInt8, (!(Op.bytesLess x y || x == y)) = Op.bytesLess y x
  | [], [] => by simp [Op.bytesLess]
  | _ :: _, [] => by simp [Op.bytesLess]
  | [], _ :: _ => by simp [Op.bytesLess]
  | a :: x, b :: y => by
    have ih := less_turned x y
    simp only [Op.bytesLess]
    by_cases h1 : a < b
    · have h2 : ¬ b < a := fun h => absurd (UInt8.lt_trans h1 h) (UInt8.lt_irrefl a)
      have h3 : (b == a) = false := by
        rw [beq_eq_false_iff_ne]
        rintro rfl
        exact UInt8.lt_irrefl _ h1
      simp [h1, h2, h3]
    · by_cases h2 : a = b
      · subst h2
        have h3 : ¬ a < a := UInt8.lt_irrefl a
        simp only [h3, decide_false, beq_self_eq_true, Bool.true_and, Bool.false_or, List.cons_beq_cons]
        exact ih
      · have h3 : b < a := by
          rcases UInt8.lt_or_lt_of_ne h2 with h | h
          · exact absurd h h1
          · exact h
        have h4 : (a == b) = false := beq_eq_false_iff_ne.mpr h2
        simp [h1, h2, h3]
/-- 'x > y' of texts, as our print has it. -/
theorem str_gtr (t : TypeId) (a b : ByteArray) : binOp .gtr t (.string a) (.string b) = pure (.bool (Op.bytesLess b.toList a.toList)) := by
  rw [← less_turned]
  simp [binOp, Op.stringOp]
theorem str_leq (t : TypeId) (a b : ByteArray) : binOp .leq t (.string a) (.string b) = pure (.bool (!(Op.bytesLess b.toList a.toList))) := by
  rw [← less_turned, Bool.not_not]
  simp [binOp, Op.stringOp]
theorem str_geq (t : TypeId) (a b : ByteArray) : binOp .geq t (.string a) (.string b) = pure (.bool (!(Op.bytesLess a.toList b.toList))) := by
  simp [binOp, Op.stringOp]
theorem reps_one {α : Type} {enc : α → Value} : ∀ {xs : List α} {cs : List Value}, Reps (fun x c => c = [enc x]) 1 xs cs → cs = xs.map enc := by
  intro xs cs h
  apply List.ext_getElem?
  intro j
  rw [List.getElem?_map]
  cases hj : xs[j]? with
  | none =>
    have := List.getElem?_eq_none_iff.1 hj
    rw [Option.map_none, List.getElem?_eq_none_iff, h.1]
    omega
  | some p =>
    have h1 := h.2 j p hj
    rw [Nat.mul_one] at h1
    have h2 : (List.take 1 (cs.drop j))[0]? = some (enc p) := by rw [h1]; rfl
    rw [List.getElem?_take_of_lt (by omega), List.getElem?_drop] at h2
    simpa using h2
theorem reps_map {α : Type} {enc : α → Value} (xs : List α) : Reps (fun x c => c = [enc x]) 1 xs (xs.map enc) := by
  refine ⟨by simp, fun j p hj => ?_⟩
  rw [Nat.mul_one]
  apply List.ext_getElem?
  intro i
  cases i with
  | zero => rw [List.getElem?_take_of_lt (by omega), List.getElem?_drop]; simp [hj]
  | succ i => rw [List.getElem?_take_eq_none (by omega)]; simp
theorem R_ints {e : Nat} {w : World} {base : Nat} {ok : Nat → Prop} {v : Value} {xs : List Int} (h : Kd.R (Kd.int .i64) e w base ok v xs) : w.ownsRow base e 1 v xs.length (xs.map (Value.int .i64)) := by
  obtain ⟨_, inner, ho, hr⟩ := h
  have := reps_one hr
  subst this
  exact ho
theorem R_of_ints {e : Nat} {w : World} {base : Nat} {ok : Nat → Prop} {v : Value} {xs : List Int} (h0 : ∀ k, v.ownBlock = some k → ok k) (h : w.ownsRow base e 1 v xs.length (xs.map (Value.int .i64))) : Kd.R (Kd.int .i64) e w base ok v xs :=
  ⟨h0, _, h, reps_map xs⟩
/-- A row of numbers of one's own: nil, or in a block. -/
theorem R_parts {e : Nat} {w : World} {base : Nat} {ok : Nat → Prop} {v : Value} {xs : List Int} (h : Kd.R (Kd.int .i64) e w base ok v xs) :
    (v = .slice none 0 0 ∧ xs = []) ∨ ∃ g cap cur, v = .slice (some ⟨g, 0, none⟩) xs.length cap ∧ base ≤ g ∧ w.heap[g]? = some (.cells cur e (0, 0)) ∧ xs.length ≤ cap ∧ cap ≤ maxLen ∧ cur.size = cap * 1 ∧ cur.toList.take xs.length = xs.map (Value.int .i64) ∧ ok g := by
  have h1 := R_ints h
  rcases h1.2 with ⟨hv, hn⟩ | ⟨g, cap, cur, hv, hb, hg, h2, h3, h4, h5⟩
  · exact .inl ⟨hv, List.length_eq_zero_iff.1 hn⟩
  · exact .inr ⟨g, cap, cur, hv, hb, hg, h2, h3, h4, by simpa using h5, h.1 g (by rw [hv]; rfl)⟩
theorem rows_ne {e e' : Nat} {w : World} {v v' : Value} (hx : ∀ k, v.ownBlock = some k → ∃ cells, w.heap[k]? = some (.cells cells e (0, 0))) (hy : ∀ k, v'.ownBlock = some k → ∃ cells, w.heap[k]? = some (.cells cells e' (0, 0))) (ht : e ≠ e') : ∀ k, v'.ownBlock = some k → some k ≠ v.ownBlock := by
  intro k hk h
  obtain ⟨c, h1⟩ := hy k hk
  obtain ⟨c', h2⟩ := hx k h.symm
  rw [h1] at h2
  injection h2 with h2
  injection h2 with _ h2
  exact ht h2.symm
theorem V_of_N {α : Type} {d : Kd α} {e : Nat} {w : World} {base : Nat} {ok : Nat → Prop} {v : Value} {xs : List α} (h : Kd.N d e w base ok v xs) : Kd.V d e w base ok v xs := by
  obtain ⟨A, c, rfl⟩ := Kd.N_slice h
  exact Kd.V_mk (Kd.N_reads' h).2.1 (Kd.N_F h)
end Go.Proofs.Ytmamkmolgbmmaaa.Hand
