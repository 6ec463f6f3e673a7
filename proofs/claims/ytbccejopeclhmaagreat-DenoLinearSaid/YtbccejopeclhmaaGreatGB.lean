import Derived.Test.YtbccejopeclhmaaGreatGA
namespace Go.V
open Go Go.RowKit Go.Proofs
set_option maxRecDepth 100000
set_option maxHeartbeats 4000000
set_option linter.unusedVariables false
set_option linter.unusedSimpArgs false
theorem does_cut {P : Program} {f : FuncId} {args : List PV} {e : TypeId} {Q : PV → Mem → Prop} (h : Does P f args [] 0 (fun r m' => Q r m' ∨ ∃ es k, k ≤ es.length ∧ r = .osl 0 0 k ∧ m' = [.row e es] ∧ Q (.own 0) [.row e (es.take k)])) : Does P f args [] 0 Q := by
  refine ⟨h.1, fun M w vs ρ hM hm hl hr => (h.run hM hm hl hr).mono fun en w' he => ?_⟩
  obtain ⟨v, r, m', ρ', rfl, hq, hf, hrep, hmem, hft, hnew⟩ := he
  rcases hq with hq | ⟨es, k, hk, rfl, rfl, hq⟩
  · exact .inl ⟨v, r, m', ρ', rfl, hq, hf, hrep, hmem, hft, hnew⟩
  have one : ∀ {b : Nat} {x : Blk} {y : Blk}, ([y] : Mem)[b]? = some x → b = 0 ∧ x = y := by
    intro b x y hx
    cases b with
    | zero => simp at hx; exact ⟨rfl, hx.symm⟩
    | succ b => simp at hx
  have lv : ∀ {b : Nat} {y : Blk}, Live [y] b → b = 0 := fun ⟨x, hx, _⟩ => (one hx).1
  cases hrep with
  | im hi => cases hi
  | osl h1 h2 => omega
  | osl0 h1 h2 h3 =>
    rename_i n c A e' es'
    simp at h1
    obtain ⟨rfl, rfl⟩ := h1
    have hb := hmem.blk 0 (.row e es) rfl
    rw [h3] at hb
    have e1 : own1 (.slice A k c) = own1 (ρ' 0) := by rw [h3]; cases A <;> rfl
    have l0 : Live [.row e es] 0 := ⟨_, rfl, by simp⟩
    have hM2 : ∀ q, Mine M [.row e (es.take k)] (fun _ => .slice A k c) q → Mine M [.row e es] ρ' q := fun q hq => hq.imp id fun ⟨b, hb, ho⟩ => ⟨0, l0, by rw [← e1]; exact ho⟩
    refine .inl ⟨_, .own 0, [.row e (es.take k)], fun _ => .slice A k c, rfl, hq, hf, .own (e := e) (es := es.take k) rfl, ⟨fun b x hx => ?_, fun b b' k hb hb' _ _ => (lv hb).trans (lv hb').symm, fun b q _ hk => hmem.out 0 q l0 (by rw [← e1]; exact hk)⟩, ⟨by simp, fun b cs hb => by simp at hb, fun b e es hb => by simp at hb, fun b hb => by simp at hb⟩, fun b q _ hk => hnew 0 q l0 (by rw [← e1]; exact hk)⟩
    obtain ⟨rfl, rfl⟩ := one hx
    cases hb with
    | row hi hzz hzzs h0 hby hlen' ho hsz hf hx' h1 =>
      rename_i xs i z'
      obtain rfl : n = es.length := by
        rcases ho.2 with ⟨e1, e2⟩ | ⟨g, cap, cur, e1, _⟩
        · cases e1; exact e2.symm
        · cases e1; rfl
      have ho' := ownsRow_take ho hk
      have hln : (es.take k).length = k := by rw [List.length_take]; omega
      refine .row (xs := xs.take (k * i.size)) hi hzz hzzs h0 hby (by omega) (by rw [hln]; exact ho') (fun x hx => hsz x (List.mem_of_mem_take hx)) (fun hf0 x hx => hf hf0 x (List.mem_of_mem_take hx)) (fun q j x p hq hj => ?_) (fun u hu => h1 u (List.mem_of_mem_take hu))
      have hqk : q < k := by have := lt_of_get hq; omega
      rw [List.getElem?_take, if_pos hqk] at hq
      obtain ⟨u, hu, hp⟩ := hx' q j x p hq hj
      have hj2 : j < i.size := by rw [← hsz x (List.mem_of_getElem? hq)]; exact lt_of_get hj
      have hlt : q * i.size + j < k * i.size := by
        have := Nat.mul_le_mul_right i.size (show q + 1 ≤ k by omega)
        rw [Nat.add_mul, Nat.one_mul] at this; omega
      exact ⟨u, by rw [List.getElem?_take, if_pos hlt]; exact hu, hp.move (Mv.refl _ _) (fun q _ h => hM2 q h)⟩
def someG (l : List Count) : List Count := l.filter fun c => !decide (c.diff ≤ 0)
def onceG (r : List Val) : List Count := [⟨r, 1⟩]
theorem some_le (r : List Val) (d : Int) (Q : PV → Mem → Prop)  (h : Q (vb (decide (d ≤ 0))) []) : Does Tryz.prog 192 [.agg [.sl (r.map eV), vi d]] [] 0 Q := by
  refine does_of mixed Tryz.func192 rfl (by kernel_rfl) no (slots []) ?_
  simp only [Tryz.f192]
  repeat' (first
    | simp -implicitDefEqProofs only [go_sem, Nat.reduceAdd, Nat.reduceEqDiff, Nat.reduceLT, Nat.reduceBEq, Nat.reduceLeDiff, Nat.reduceSub, Int.reduceLE, Int.reduceNeg, Int.reduceEq, Int.reduceToNat]
    | with_reducible refine know_of fun _ => ?_
    | with_reducible refine ifD1 (by omega) ?_
    | with_reducible refine ifD0 (by omega) ?_
    | with_reducible refine ifE1 (by omega) ?_
    | with_reducible refine ifE0 (by omega) ?_
    | with_reducible refine ifN1 (by omega) ?_
    | with_reducible refine ifN0 (by omega) ?_
    | with_reducible refine ifD_of (fun _ => ?_) (fun _ => ?_)
    | with_reducible refine ifE_of (fun _ => ?_) (fun _ => ?_)
    | with_reducible refine ifN_of (fun _ => ?_) (fun _ => ?_)
    | with_reducible refine Go.V.if1 (by assumption) ?_
    | with_reducible refine Go.V.if0 (by assumption) ?_
    | with_reducible refine if_of (fun _ => ?_) (fun _ => ?_)
    | with_reducible refine s_of (idx_get _ _ _ (by omega) (by omega)) ?_
    | with_reducible refine s_of (idx_get _ _ _ (by omega) (by simp only [List.length_set, List.length_append, List.length_take, List.length_drop, List.length_reverse, List.length_singleton]; omega)) ?_
    | with_reducible refine s_of (map_get _ _ _ (by omega)) ?_
    | with_reducible refine s_of (map_get _ _ _ (by simp only [List.length_set]; omega)) ?_
    | with_reducible refine s_of (if_neg (by omega)) ?_
    | with_reducible refine s_of (if_pos (by omega)) ?_
    | with_reducible refine need_of (by omega) ?_
    | with_reducible refine nil_of (fun _ => ?_) ?_
    | with_reducible refine alt_of ?_ ?_
    | (with_reducible apply join_of; intro _ _)
    | with_reducible assumption)
  all_goals first | exact h | simpa using h
theorem group_some (l : List Count) (Q : PV → Mem → Prop) (hl : l.length ≤ 1000000) (h : Q (.own 0) [.row 61 ((someG l).map eC)]) : Does Tryz.prog 143 [.sl (l.map eC)] [] 0 Q := by
  refine does_cut (e := 61) ?_
  refine does_of mixed Tryz.func143 rfl (by kernel_rfl) lentG (slots []) ?_
  simp only [Tryz.f143]
  repeat' (first
    | simp -implicitDefEqProofs only [go_sem, eC, Nat.reduceAdd, Nat.reduceEqDiff, Nat.reduceLT, Nat.reduceBEq, Nat.reduceLeDiff, Nat.reduceSub, Int.reduceLE, Int.reduceNeg, Int.reduceEq, Int.reduceToNat]
    | with_reducible refine know_of fun _ => ?_
    | (with_reducible refine does_then (clone_count _ _ (by omega) ?_))
    | (with_reducible refine does_then (delete_cnt _ _ (fun c => decide (c.diff ≤ 0)) _ (by omega) (fun c _ Q hQ => some_le _ _ _ hQ) (fun hh => ?_) (fun es k hk he => ?_)))
    | with_reducible refine ifD1 (by omega) ?_
    | with_reducible refine ifD0 (by omega) ?_
    | with_reducible refine ifE1 (by omega) ?_
    | with_reducible refine ifE0 (by omega) ?_
    | with_reducible refine ifN1 (by omega) ?_
    | with_reducible refine ifN0 (by omega) ?_
    | with_reducible refine ifD_of (fun _ => ?_) (fun _ => ?_)
    | with_reducible refine ifE_of (fun _ => ?_) (fun _ => ?_)
    | with_reducible refine ifN_of (fun _ => ?_) (fun _ => ?_)
    | with_reducible refine Go.V.if1 (by assumption) ?_
    | with_reducible refine Go.V.if0 (by assumption) ?_
    | with_reducible refine if_of (fun _ => ?_) (fun _ => ?_)
    | with_reducible refine s_of (idx_get _ _ _ (by omega) (by omega)) ?_
    | with_reducible refine s_of (idx_get _ _ _ (by omega) (by simp only [List.length_set, List.length_append, List.length_take, List.length_drop, List.length_reverse, List.length_singleton]; omega)) ?_
    | with_reducible refine s_of (map_get _ _ _ (by omega)) ?_
    | with_reducible refine s_of (map_get _ _ _ (by simp only [List.length_set]; omega)) ?_
    | with_reducible refine s_of (if_neg (by omega)) ?_
    | with_reducible refine s_of (if_pos (by omega)) ?_
    | with_reducible refine need_of (by omega) ?_
    | with_reducible refine nil_of (fun _ => ?_) ?_
    | with_reducible refine alt_of ?_ ?_
    | (with_reducible apply join_of; intro _ _)
    | with_reducible assumption)
  · refine .inl ?_
    unfold someG at h
    rw [hh] at h; exact h
  · exact .inr ⟨es, k, hk, rfl, rfl, by rw [he]; exact h⟩
theorem group_once (r : List Val) (Q : PV → Mem → Prop) (hl : r.length ≤ 2000000) (h : Q (.own 0) [.row 61 ((onceG r).map eC)]) : Does Tryz.prog 148 [.sl (r.map eV)] [] 0 Q := by
  refine does_of mixed Tryz.func148 rfl (by kernel_rfl) no (slots []) ?_
  simp only [Tryz.f148]
  repeat' (first
    | simp -implicitDefEqProofs only [go_sem, eC, Nat.reduceAdd, Nat.reduceEqDiff, Nat.reduceLT, Nat.reduceBEq, Nat.reduceLeDiff, Nat.reduceSub, Int.reduceLE, Int.reduceNeg, Int.reduceEq, Int.reduceToNat]
    | with_reducible refine know_of fun _ => ?_
    | (with_reducible refine does_then (clone_row _ _ (by omega) ?_))
    | with_reducible refine ifD1 (by omega) ?_
    | with_reducible refine ifD0 (by omega) ?_
    | with_reducible refine ifE1 (by omega) ?_
    | with_reducible refine ifE0 (by omega) ?_
    | with_reducible refine ifN1 (by omega) ?_
    | with_reducible refine ifN0 (by omega) ?_
    | with_reducible refine ifD_of (fun _ => ?_) (fun _ => ?_)
    | with_reducible refine ifE_of (fun _ => ?_) (fun _ => ?_)
    | with_reducible refine ifN_of (fun _ => ?_) (fun _ => ?_)
    | with_reducible refine Go.V.if1 (by assumption) ?_
    | with_reducible refine Go.V.if0 (by assumption) ?_
    | with_reducible refine if_of (fun _ => ?_) (fun _ => ?_)
    | with_reducible refine s_of (idx_get _ _ _ (by omega) (by omega)) ?_
    | with_reducible refine s_of (idx_get _ _ _ (by omega) (by simp only [List.length_set, List.length_append, List.length_take, List.length_drop, List.length_reverse, List.length_singleton]; omega)) ?_
    | with_reducible refine s_of (map_get _ _ _ (by omega)) ?_
    | with_reducible refine s_of (map_get _ _ _ (by simp only [List.length_set]; omega)) ?_
    | with_reducible refine s_of (if_neg (by omega)) ?_
    | with_reducible refine s_of (if_pos (by omega)) ?_
    | with_reducible refine need_of (by omega) ?_
    | with_reducible refine nil_of (fun _ => ?_) ?_
    | with_reducible refine alt_of ?_ ?_
    | (with_reducible apply join_of; intro _ _)
    | with_reducible assumption)
  all_goals first | exact h | simpa using h
def strE : ByteArray := ⟨#[]⟩
theorem row_JoinG (a : List Val) (n : Int) (Q : PV → Mem → Prop) (ha : a.length ≤ 1000000) (h : Q (.own 0) [.row 83 ((a ++ [(⟨0, n, strE⟩ : Val)]).map eV)]) : Does Tryz.prog 104 [.sl [[.sl (a.map eV)], [.sl [[vi 0, vi n, vs strE]]]]] [] 0 Q := row_Join a [⟨0, n, strE⟩] Q ha (by simp) h
def countG (key : List Val) (l : List Count) : List Count × Int := if (sumW (l.map (·.diff)) 0).2 ≠ 0 ∨ (sumW (l.map (·.diff)) 0).1 = 0 then ([], (sumW (l.map (·.diff)) 0).2) else (onceG (key ++ [⟨0, (sumW (l.map (·.diff)) 0).1, strE⟩]), 0)
def colE (col : Int) : List Count → Int
  | [] => 0
  | c :: l => if col < 0 ∨ (c.row.length : Int) ≤ col then 9 else if (c.row.getD col.toNat default).kind ≠ 0 then 80 else colE col l
def valsG (col : Int) (l : List Count) : List Int := l.map fun c => (c.row.getD col.toNat default).int
def sumG (key : List Val) (col : Int) (l : List Count) : List Count × Int := if colE col l ≠ 0 then ([], colE col l) else if (dotW (l.map (·.diff)) (valsG col l) 0).2 ≠ 0 then ([], (dotW (l.map (·.diff)) (valsG col l) 0).2) else (onceG (key ++ [⟨0, (dotW (l.map (·.diff)) (valsG col l) 0).1, strE⟩]), 0)
def minI (a b : Int) : Int := if b < a then b else a
def topG : Int → List Count → List Count
  | _, [] => []
  | n, c :: l => if minI c.diff n = 0 then [] else ⟨c.row, minI c.diff n⟩ :: topG (n - minI c.diff n) l
theorem valsG_len (col : Int) (l : List Count) : (valsG col l).length = l.length := List.length_map ..
theorem diffs_step (l : List Count) (i : Nat) (h : i < l.length) : ((l.take i).map (·.diff)).map eI ++ [[vi (l.getD i default).diff]] = ((l.take (i + 1)).map (·.diff)).map eI := by rw [take_cons' l i h]; simp [eI]
theorem vals_step (col : Int) (l : List Count) (i : Nat) (h : i < l.length) : (valsG col (l.take i)).map eI ++ [[vi ((l.getD i default).row.getD col.toNat default).int]] = (valsG col (l.take (i + 1))).map eI := by rw [take_cons' l i h]; simp [eI, valsG]
theorem group_count (key : List Val) (l : List Count) (Q : PV → Mem → Prop) (hk : key.length ≤ 1000000) (hl : l.length ≤ 1000000) (h : Q (.tup [.own 0, vi (countG key l).2]) [.row 61 ((countG key l).1.map eC)]) : Does Tryz.prog 144 [.sl (key.map eV), .sl (l.map eC)] [] 0 Q := by
  refine does_of mixed Tryz.func144 rfl (by kernel_rfl) no (slots [(0, [0, 6, 11, 12, 13])]) ?_
  simp only [Tryz.f144]
  repeat' (first
    | simp -implicitDefEqProofs only [go_sem, eC, Nat.reduceAdd, Nat.reduceEqDiff, Nat.reduceLT, Nat.reduceBEq, Nat.reduceLeDiff, Nat.reduceSub, Int.reduceLE, Int.reduceNeg, Int.reduceEq, Int.reduceToNat]
    | with_reducible refine know_of fun _ => ?_
    | with_reducible refine ifD1 (by omega) ?_
    | with_reducible refine ifD0 (by omega) ?_
    | with_reducible refine ifE1 (by omega) ?_
    | with_reducible refine ifE0 (by omega) ?_
    | with_reducible refine ifN1 (by omega) ?_
    | with_reducible refine ifN0 (by omega) ?_
    | with_reducible refine ifD_of (fun _ => ?_) (fun _ => ?_)
    | with_reducible refine ifE_of (fun _ => ?_) (fun _ => ?_)
    | with_reducible refine ifN_of (fun _ => ?_) (fun _ => ?_)
    | with_reducible refine Go.V.if1 (by assumption) ?_
    | with_reducible refine Go.V.if0 (by assumption) ?_
    | with_reducible refine if_of (fun _ => ?_) (fun _ => ?_)
    | with_reducible refine s_of (idx_get _ _ _ (by omega) (by omega)) ?_
    | with_reducible refine s_of (idx_get _ _ _ (by omega) (by simp only [List.length_set, List.length_append, List.length_take, List.length_drop, List.length_reverse, List.length_singleton]; omega)) ?_
    | with_reducible refine s_of (map_get _ _ _ (by omega)) ?_
    | with_reducible refine s_of (map_get _ _ _ (by simp only [List.length_set]; omega)) ?_
    | with_reducible refine s_of (if_neg (by omega)) ?_
    | with_reducible refine s_of (if_pos (by omega)) ?_
    | with_reducible refine need_of (by omega) ?_
    | with_reducible refine nil_of (fun _ => ?_) ?_
    | with_reducible refine alt_of ?_ ?_
    | (with_reducible apply join_of; intro _ _)
    | with_reducible assumption)
  refine loop_then (loop_ind (σ := Nat) (fun s => [(0, .sl (key.map eV)), (6, .own 0), (11, .sl (l.map eC)), (12, vi l.length), (13, vi s)]) (fun s => [.row 3 (((l.take s).map (·.diff)).map eI)]) (fun s => l.length - s) (fun s => s ≤ l.length) ?_ 0 (Nat.zero_le _))
  rintro X i hi ih
  try dsimp only at ih ⊢
  repeat' (first
    | refine need_of (by simp only [valsG_len, List.length_take, List.length_append, List.length_map, List.length_singleton]; omega) ?_
    | simp -implicitDefEqProofs only [go_sem, eC, Int.toNat_natCast, Nat.reduceAdd, Nat.reduceEqDiff, Nat.reduceLT, Nat.reduceBEq, Nat.reduceLeDiff, Nat.reduceSub, Int.reduceLE, Int.reduceNeg, Int.reduceEq, Int.reduceToNat]
    | with_reducible refine know_of fun _ => ?_
    | (with_reducible refine does_then (weigh_Sum _ _ ?_))
    | (with_reducible refine does_then (row_JoinG _ _ _ (by omega) ?_))
    | (with_reducible refine does_then (group_once _ _ (by simp only [List.length_append, List.length_singleton]; omega) ?_))
    | with_reducible refine ifD1 (by omega) ?_
    | with_reducible refine ifD0 (by omega) ?_
    | with_reducible refine ifE1 (by omega) ?_
    | with_reducible refine ifE0 (by omega) ?_
    | with_reducible refine ifN1 (by omega) ?_
    | with_reducible refine ifN0 (by omega) ?_
    | with_reducible refine ifD_of (fun _ => ?_) (fun _ => ?_)
    | with_reducible refine ifE_of (fun _ => ?_) (fun _ => ?_)
    | with_reducible refine ifN_of (fun _ => ?_) (fun _ => ?_)
    | with_reducible refine Go.V.if1 (by assumption) ?_
    | with_reducible refine Go.V.if0 (by assumption) ?_
    | with_reducible refine if_of (fun _ => ?_) (fun _ => ?_)
    | with_reducible refine s_of (idx_get _ _ _ (by omega) (by omega)) ?_
    | with_reducible refine s_of (idx_get _ _ _ (by omega) (by simp only [List.length_set, List.length_append, List.length_take, List.length_drop, List.length_reverse, List.length_singleton]; omega)) ?_
    | with_reducible refine s_of (map_get _ _ _ (by omega)) ?_
    | with_reducible refine s_of (map_get _ _ _ (by simp only [List.length_set]; omega)) ?_
    | with_reducible refine s_of (if_neg (by omega)) ?_
    | with_reducible refine s_of (if_pos (by omega)) ?_
    | with_reducible refine need_of (by omega) ?_
    | with_reducible refine nil_of (fun _ => ?_) ?_
    | with_reducible refine alt_of ?_ ?_
    | (with_reducible apply join_of; intro _ _)
    | with_reducible assumption)
  · rw [wnat i (by omega), diffs_step l i (by omega)]; exact ih (i + 1) (by omega) (by omega)
  all_goals (obtain rfl : i = l.length := by omega)
  all_goals rw [List.take_length] at *
  all_goals (simp (disch := first | assumption | omega) only [countG, if_pos, if_neg] at h; exact h)
theorem group_sum (key : List Val) (col : Int) (l : List Count) (Q : PV → Mem → Prop) (hk : key.length ≤ 1000000) (hl : l.length ≤ 1000000) (h : Q (.tup [.own 0, vi (sumG key col l).2]) [.row 61 ((sumG key col l).1.map eC)]) : Does Tryz.prog 145 [.sl (key.map eV), vi col, .sl (l.map eC)] [] 0 Q := by
  refine does_of mixed Tryz.func145 rfl (by kernel_rfl) no (slots [(0, [0, 1, 8, 9, 14, 15, 16])]) ?_
  simp only [Tryz.f145]
  repeat' (first
    | simp -implicitDefEqProofs only [go_sem, eC, Nat.reduceAdd, Nat.reduceEqDiff, Nat.reduceLT, Nat.reduceBEq, Nat.reduceLeDiff, Nat.reduceSub, Int.reduceLE, Int.reduceNeg, Int.reduceEq, Int.reduceToNat]
    | with_reducible refine know_of fun _ => ?_
    | with_reducible refine ifD1 (by omega) ?_
    | with_reducible refine ifD0 (by omega) ?_
    | with_reducible refine ifE1 (by omega) ?_
    | with_reducible refine ifE0 (by omega) ?_
    | with_reducible refine ifN1 (by omega) ?_
    | with_reducible refine ifN0 (by omega) ?_
    | with_reducible refine ifD_of (fun _ => ?_) (fun _ => ?_)
    | with_reducible refine ifE_of (fun _ => ?_) (fun _ => ?_)
    | with_reducible refine ifN_of (fun _ => ?_) (fun _ => ?_)
    | with_reducible refine Go.V.if1 (by assumption) ?_
    | with_reducible refine Go.V.if0 (by assumption) ?_
    | with_reducible refine if_of (fun _ => ?_) (fun _ => ?_)
    | with_reducible refine s_of (idx_get _ _ _ (by omega) (by omega)) ?_
    | with_reducible refine s_of (idx_get _ _ _ (by omega) (by simp only [List.length_set, List.length_append, List.length_take, List.length_drop, List.length_reverse, List.length_singleton]; omega)) ?_
    | with_reducible refine s_of (map_get _ _ _ (by omega)) ?_
    | with_reducible refine s_of (map_get _ _ _ (by simp only [List.length_set]; omega)) ?_
    | with_reducible refine s_of (if_neg (by omega)) ?_
    | with_reducible refine s_of (if_pos (by omega)) ?_
    | with_reducible refine need_of (by omega) ?_
    | with_reducible refine nil_of (fun _ => ?_) ?_
    | with_reducible refine alt_of ?_ ?_
    | (with_reducible apply join_of; intro _ _)
    | with_reducible assumption)
  refine loop_then (loop_ind (σ := Nat) (fun s => [(0, .sl (key.map eV)), (1, vi col), (8, .own 0), (9, .own 1), (14, .sl (l.map eC)), (15, vi l.length), (16, vi s)]) (fun s => [.row 3 (((l.take s).map (·.diff)).map eI), .row 3 ((valsG col (l.take s)).map eI)]) (fun s => l.length - s) (fun s => s ≤ l.length ∧ colE col (l.drop s) = colE col l) ?_ 0 ⟨Nat.zero_le _, rfl⟩)
  rintro X i ⟨hi, hc⟩ ih
  try dsimp only at ih ⊢
  repeat' (first
    | refine need_of (by simp only [valsG_len, List.length_take, List.length_append, List.length_map, List.length_singleton]; omega) ?_
    | simp -implicitDefEqProofs only [go_sem, eC, eV, Int.toNat_natCast, Nat.reduceAdd, Nat.reduceEqDiff, Nat.reduceLT, Nat.reduceBEq, Nat.reduceLeDiff, Nat.reduceSub, Int.reduceLE, Int.reduceNeg, Int.reduceEq, Int.reduceToNat]
    | with_reducible refine know_of fun _ => ?_
    | (with_reducible refine does_then (weigh_Dot _ _ _ (by rw [valsG_len, List.length_map]) ?_))
    | (with_reducible refine does_then (row_JoinG _ _ _ (by omega) ?_))
    | (with_reducible refine does_then (group_once _ _ (by simp only [List.length_append, List.length_singleton]; omega) ?_))
    | with_reducible refine ifD1 (by omega) ?_
    | with_reducible refine ifD0 (by omega) ?_
    | with_reducible refine ifE1 (by omega) ?_
    | with_reducible refine ifE0 (by omega) ?_
    | with_reducible refine ifN1 (by omega) ?_
    | with_reducible refine ifN0 (by omega) ?_
    | with_reducible refine ifD_of (fun _ => ?_) (fun _ => ?_)
    | with_reducible refine ifE_of (fun _ => ?_) (fun _ => ?_)
    | with_reducible refine ifN_of (fun _ => ?_) (fun _ => ?_)
    | with_reducible refine Go.V.if1 (by assumption) ?_
    | with_reducible refine Go.V.if0 (by assumption) ?_
    | with_reducible refine if_of (fun _ => ?_) (fun _ => ?_)
    | with_reducible refine s_of (idx_get _ _ _ (by omega) (by omega)) ?_
    | with_reducible refine s_of (idx_get _ _ _ (by omega) (by simp only [List.length_set, List.length_append, List.length_take, List.length_drop, List.length_reverse, List.length_singleton]; omega)) ?_
    | with_reducible refine s_of (map_get _ _ _ (by omega)) ?_
    | with_reducible refine s_of (map_get _ _ _ (by simp only [List.length_set]; omega)) ?_
    | with_reducible refine s_of (if_neg (by omega)) ?_
    | with_reducible refine s_of (if_pos (by omega)) ?_
    | with_reducible refine need_of (by omega) ?_
    | with_reducible refine nil_of (fun _ => ?_) ?_
    | with_reducible refine alt_of ?_ ?_
    | (with_reducible apply join_of; intro _ _)
    | with_reducible assumption)
  · rw [drop_getD l i (by omega), colE, if_pos (by omega)] at hc
    rw [sumG, ← hc, if_pos (by decide)] at h; exact h
  · rw [drop_getD l i (by omega), colE, if_pos (by omega)] at hc
    rw [sumG, ← hc, if_pos (by decide)] at h; exact h
  · rw [drop_getD l i (by omega), colE, if_neg (by omega), if_pos (by assumption)] at hc
    rw [sumG, ← hc, if_pos (by decide)] at h; exact h
  · rw [drop_getD l i (by omega), colE, if_neg (by omega), if_neg (by omega)] at hc
    rw [wnat i (by omega), diffs_step l i (by omega), vals_step col l i (by omega)]; exact ih (i + 1) (by omega) ⟨by omega, hc⟩
  all_goals (obtain rfl : i = l.length := by omega)
  all_goals rw [List.drop_length, colE] at hc
  all_goals rw [List.take_length] at *
  all_goals rw [sumG, if_neg (by omega)] at h
  · rw [if_pos (by assumption)] at h; exact h
  · rw [if_neg (by omega)] at h; exact h
end Go.V
