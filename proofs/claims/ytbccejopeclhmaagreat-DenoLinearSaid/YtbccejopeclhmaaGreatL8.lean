import Derived.Test.YtbccejopeclhmaaGreatL7
namespace Go.V
open Go Go.RowKit Go.Proofs
set_option maxRecDepth 100000
set_option maxHeartbeats 4000000
set_option linter.unusedVariables false
set_option linter.unusedSimpArgs false
def lentK (f : FuncId) : Bool := f == 220 || f == 221 || f == 195
theorem lentK1 : lentK 220 = true := rfl
theorem lentK2 : lentK 221 = true := rfl
theorem lentK3 : lentK 195 = true := rfl
theorem lentK4 : lentK 153 = false := rfl
theorem lentK5 : lentK 222 = false := rfl
attribute [go_sem] lentTo atLeast List.drop_succ_cons List.drop_zero List.zip_cons_cons List.zip_nil_left List.zip_nil_right
attribute [go_sem] lentK1 lentK2 lentK3 lentK4 lentK5
def pushK (s : List Int) (k : Int) : List Int × Int := if s.length = 16 then (s, 3) else (s ++ [k], 0)
def stepK (cols : List Int) (t : Term) (s : List Int) : List Int × Int :=
  if t.op = 0 then (if t.int < 0 ∨ (cols.length : Int) ≤ t.int then (s, 9) else pushK s (cols.getD t.int.toNat default))
  else if t.op = 2 then (if (t.str.size : Int) > 4096 then (s, 2) else pushK s 1)
  else if t.op = 1 then pushK s 0
  else if t.op < 0 ∨ 19 ≤ t.op then (s, 8)
  else if (s.length : Int) < arity t.op then (s, 6)
  else if fitsK t.op (s.drop ((s.length : Int) - arity t.op).toNat) = true then (s.take ((s.length : Int) - arity t.op).toNat ++ [kindK t.op (s.drop ((s.length : Int) - arity t.op).toNat)], 0) else (s, 80)
theorem arity_pos {op : Int} (h0 : op ≠ 0) (h1 : op ≠ 1) (h2 : op ≠ 2) : 1 ≤ arity op ∧ arity op ≤ 3 := by
  unfold arity; (repeat' split) <;> omega
theorem step1 (cols : List Int) (s : List Int) (op n : Int) (t : ByteArray) (Q : PV → Mem → Prop) (hs : s.length ≤ 16) (h : (stepK cols ⟨op, n, t⟩ s).2 = 0 → Q (vi 0) [.var [.sl (cols.map eI), .own 1], .row 3 ((stepK cols ⟨op, n, t⟩ s).1.map eI)]) (h1 : (stepK cols ⟨op, n, t⟩ s).2 ≠ 0 → Q (vi (stepK cols ⟨op, n, t⟩ s).2) [.var [.sl (cols.map eI), .own 1], .row 3 (s.map eI)] ∧ ∀ j, Q (vi (stepK cols ⟨op, n, t⟩ s).2) [.var [.sl (cols.map eI), .osl 1 0 j], .row 3 (s.map eI)]) : Does Tryz.prog 195 [.adr 0 0, .agg [vi op, vi n, vs t]] [.var [.sl (cols.map eI), .own 1], .row 3 (s.map eI)] 1 Q := by
  refine does_of mixed Tryz.func195 rfl (by kernel_rfl) lentK (slots []) ?_
  simp only [Tryz.f195]
  have ha : op ≠ 0 → op ≠ 1 → op ≠ 2 → 1 ≤ arity op ∧ arity op ≤ 3 := fun a b c => arity_pos a b c
  have keyO : ∀ s', stepK cols ⟨op, n, t⟩ s = (s', 0) → Q (vi 0) [.var [.sl (cols.map eI), .own 1], .row 3 (s'.map eI)] := fun s' he => by rw [he] at h; exact h rfl
  have keyE : ∀ e, (stepK cols ⟨op, n, t⟩ s).2 = e → e ≠ 0 → Q (vi e) [.var [.sl (cols.map eI), .own 1], .row 3 (s.map eI)] ∧ ∀ j, Q (vi e) [.var [.sl (cols.map eI), .osl 1 0 j], .row 3 (s.map eI)] := fun e he h0 => by rw [he] at h1; exact h1 h0
  clear h h1
  repeat' (first
    | simp -implicitDefEqProofs only [go_sem, eI, Nat.reduceAdd, Nat.reduceEqDiff, Nat.reduceLT, Nat.reduceBEq, Nat.reduceLeDiff, Nat.reduceSub, Int.reduceLE, Int.reduceNeg, Int.reduceEq, Int.reduceToNat]
    | with_reducible refine know_of fun _ => ?_
    | (with_reducible refine does_then (push2 _ _ _ _ _ (by omega) ?_))
    | (with_reducible refine does_then (push1 _ _ _ _ (by omega) (fun _ => ?_) (fun _ => ?_)))
    | (with_reducible refine does_then (expr_arity _ _ ?_))
    | (with_reducible refine does_then (take1 _ _ _ _ (by omega) (by omega) (fun _ => ?_) (fun _ => ?_)))
    | (with_reducible refine does_then (expr_made _ _ _ (by omega) (by rw [List.length_drop]; omega) ?_))
    | with_reducible refine ifD1 (by omega) ?_
    | with_reducible refine ifD0 (by omega) ?_
    | with_reducible refine ifE1 (by omega) ?_
    | with_reducible refine ifE0 (by omega) ?_
    | with_reducible refine ifN1 (by omega) ?_
    | with_reducible refine ifN0 (by omega) ?_
    | with_reducible refine ifD_of (fun _ => ?_) (fun _ => ?_)
    | with_reducible refine ifE_of (fun _ => ?_) (fun _ => ?_)
    | with_reducible refine ifN_of (fun _ => ?_) (fun _ => ?_)
    | with_reducible refine Go.V.if1 (by assumption) ?_
    | with_reducible refine Go.V.if0 (by assumption) ?_
    | with_reducible refine if_of (fun _ => ?_) (fun _ => ?_)
    | with_reducible refine s_of (idx_get _ _ _ (by omega) (by omega)) ?_
    | with_reducible refine s_of (idx_get _ _ _ (by omega) (by simp only [List.length_set, List.length_append, List.length_take, List.length_drop, List.length_reverse, List.length_singleton]; omega)) ?_
    | with_reducible refine s_of (map_get _ _ _ (by omega)) ?_
    | with_reducible refine s_of (map_get _ _ _ (by simp only [List.length_set]; omega)) ?_
    | with_reducible refine s_of (if_neg (by omega)) ?_
    | with_reducible refine s_of (if_pos (by omega)) ?_
    | with_reducible refine need_of (by omega) ?_
    | with_reducible refine nil_of (fun _ => ?_) ?_
    | with_reducible refine alt_of ?_ ?_
    | (with_reducible apply join_of; intro _ _)
    | with_reducible assumption)
  all_goals first | (refine keyO _ ?_; (focus (unfold stepK pushK; dsimp only; (repeat' split) <;> first | rfl | (exfalso; omega) | (exfalso; simp_all; done))); done) | (refine (keyE _ ?_ ?_).1; (focus (unfold stepK pushK; dsimp only; (repeat' split) <;> first | rfl | (exfalso; omega) | (exfalso; simp_all; done))); decide) | (refine (keyE _ ?_ ?_).2 _; (focus (unfold stepK pushK; dsimp only; (repeat' split) <;> first | rfl | (exfalso; omega) | (exfalso; simp_all; done))); decide)
theorem step0 (cols : List Int) (op n : Int) (t : ByteArray) (Q : PV → Mem → Prop)  (h : (stepK cols ⟨op, n, t⟩ []).2 = 0 → Q (vi 0) [.var [.sl (cols.map eI), .own 1], .row 3 ((stepK cols ⟨op, n, t⟩ []).1.map eI)]) (h1 : (stepK cols ⟨op, n, t⟩ []).2 ≠ 0 → Q (vi (stepK cols ⟨op, n, t⟩ []).2) [.var [.sl (cols.map eI), .val (.slice none 0 0)]]) : Does Tryz.prog 195 [.adr 0 0, .agg [vi op, vi n, vs t]] [.var [.sl (cols.map eI), .val (.slice none 0 0)]] 1 Q := by
  refine does_of mixed Tryz.func195 rfl (by kernel_rfl) lentK (slots []) ?_
  simp only [Tryz.f195]
  have ha : op ≠ 0 → op ≠ 1 → op ≠ 2 → 1 ≤ arity op ∧ arity op ≤ 3 := fun a b c => arity_pos a b c
  have keyO : ∀ s', stepK cols ⟨op, n, t⟩ [] = (s', 0) → Q (vi 0) [.var [.sl (cols.map eI), .own 1], .row 3 (s'.map eI)] := fun s' he => by rw [he] at h; exact h rfl
  have keyE : ∀ e, (stepK cols ⟨op, n, t⟩ []).2 = e → e ≠ 0 → Q (vi e) [.var [.sl (cols.map eI), .val (.slice none 0 0)]] := fun e he h0 => by rw [he] at h1; exact h1 h0
  clear h h1
  repeat' (first
    | simp -implicitDefEqProofs only [go_sem, eI, Nat.reduceAdd, Nat.reduceEqDiff, Nat.reduceLT, Nat.reduceBEq, Nat.reduceLeDiff, Nat.reduceSub, Int.reduceLE, Int.reduceNeg, Int.reduceEq, Int.reduceToNat]
    | with_reducible refine know_of fun _ => ?_
    | (with_reducible refine does_then (push0 _ _ _ ?_))
    | (with_reducible refine does_then (expr_arity _ _ ?_))
    | (with_reducible refine does_then (take0 _ _ _ (by omega) ?_))
    | with_reducible refine ifD1 (by omega) ?_
    | with_reducible refine ifD0 (by omega) ?_
    | with_reducible refine ifE1 (by omega) ?_
    | with_reducible refine ifE0 (by omega) ?_
    | with_reducible refine ifN1 (by omega) ?_
    | with_reducible refine ifN0 (by omega) ?_
    | with_reducible refine ifD_of (fun _ => ?_) (fun _ => ?_)
    | with_reducible refine ifE_of (fun _ => ?_) (fun _ => ?_)
    | with_reducible refine ifN_of (fun _ => ?_) (fun _ => ?_)
    | with_reducible refine Go.V.if1 (by assumption) ?_
    | with_reducible refine Go.V.if0 (by assumption) ?_
    | with_reducible refine if_of (fun _ => ?_) (fun _ => ?_)
    | with_reducible refine s_of (idx_get _ _ _ (by omega) (by omega)) ?_
    | with_reducible refine s_of (idx_get _ _ _ (by omega) (by simp only [List.length_set, List.length_append, List.length_take, List.length_drop, List.length_reverse, List.length_singleton]; omega)) ?_
    | with_reducible refine s_of (map_get _ _ _ (by omega)) ?_
    | with_reducible refine s_of (map_get _ _ _ (by simp only [List.length_set]; omega)) ?_
    | with_reducible refine s_of (if_neg (by omega)) ?_
    | with_reducible refine s_of (if_pos (by omega)) ?_
    | with_reducible refine need_of (by omega) ?_
    | with_reducible refine nil_of (fun _ => ?_) ?_
    | with_reducible refine alt_of ?_ ?_
    | (with_reducible apply join_of; intro _ _)
    | with_reducible assumption)
  all_goals first | (refine keyO [_] ?_; (focus (unfold stepK pushK; dsimp only [List.length_nil]; (repeat' split) <;> first | rfl | (exfalso; omega) | (exfalso; simp_all; done) | (exfalso; simp_all; omega))); done) | (refine keyE _ ?_ ?_; (focus (unfold stepK pushK; dsimp only [List.length_nil]; (repeat' split) <;> first | rfl | (exfalso; omega) | (exfalso; simp_all; done) | (exfalso; simp_all; omega))); decide)
end Go.V
