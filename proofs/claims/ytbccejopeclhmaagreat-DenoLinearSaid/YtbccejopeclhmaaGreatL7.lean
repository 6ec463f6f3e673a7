import Derived.Test.YtbccejopeclhmaaGreatL6
namespace Go.V
open Go Go.RowKit Go.Proofs
set_option maxRecDepth 100000
set_option maxHeartbeats 4000000
set_option linter.unusedVariables false
set_option linter.unusedSimpArgs false
def idxK (k : Int) : List Int → Nat → Int
  | [], _ => -1
  | x :: xs, i => if x ≠ k then i else idxK k xs (i + 1)
theorem idxK_neg (k : Int) : ∀ (l : List Int) (i : Nat), decide (idxK k l i ≥ 0) = !(l.all fun x => x == k)
  | [], i => by simp [idxK]
  | x :: xs, i => by
    rw [idxK]
    by_cases h : x = k
    · rw [if_neg (by simpa using h), idxK_neg k xs (i + 1)]; simp [h]
    · rw [if_pos h]; first | (simp [h]; done) | (simp [h]; omega)
theorem index_ints (l : List Int) (k : Int) (Q : PV → Mem → Prop)  (h : Q (vi (idxK k l 0)) []) : Does Tryz.prog 211 [.sl (l.map eI), .fn 244 [.cad [vi k]]] [] 0 Q := by
  refine does_of mixed Tryz.func211 rfl (by kernel_rfl) no (slots [(0, [0, 1, 7, 8])]) ?_
  simp only [Tryz.f211]
  repeat' (first
    | simp -implicitDefEqProofs only [go_sem, eI, Nat.reduceAdd, Nat.reduceEqDiff, Nat.reduceLT, Nat.reduceBEq, Nat.reduceLeDiff, Nat.reduceSub, Int.reduceLE, Int.reduceNeg, Int.reduceEq, Int.reduceToNat]
    | with_reducible refine know_of fun _ => ?_
    | with_reducible refine ifD1 (by omega) ?_
    | with_reducible refine ifD0 (by omega) ?_
    | with_reducible refine ifE1 (by omega) ?_
    | with_reducible refine ifE0 (by omega) ?_
    | with_reducible refine ifN1 (by omega) ?_
    | with_reducible refine ifN0 (by omega) ?_
    | with_reducible refine ifD_of (fun _ => ?_) (fun _ => ?_)
    | with_reducible refine ifE_of (fun _ => ?_) (fun _ => ?_)
    | with_reducible refine ifN_of (fun _ => ?_) (fun _ => ?_)
    | with_reducible refine Go.V.if1 (by assumption) ?_
    | with_reducible refine Go.V.if0 (by assumption) ?_
    | with_reducible refine if_of (fun _ => ?_) (fun _ => ?_)
    | with_reducible refine s_of (idx_get _ _ _ (by omega) (by omega)) ?_
    | with_reducible refine s_of (idx_get _ _ _ (by omega) (by simp only [List.length_set, List.length_append, List.length_take, List.length_drop, List.length_reverse, List.length_singleton]; omega)) ?_
    | with_reducible refine s_of (map_get _ _ _ (by omega)) ?_
    | with_reducible refine s_of (map_get _ _ _ (by simp only [List.length_set]; omega)) ?_
    | with_reducible refine s_of (if_neg (by omega)) ?_
    | with_reducible refine s_of (if_pos (by omega)) ?_
    | with_reducible refine need_of (by omega) ?_
    | with_reducible refine nil_of (fun _ => ?_) ?_
    | with_reducible refine alt_of ?_ ?_
    | (with_reducible apply join_of; intro _ _)
    | with_reducible assumption)
  refine loop_then (loop_ind (σ := Nat) (fun s => [(0, .sl (l.map eI)), (1, .fn 244 [.cad [vi k]]), (7, vi l.length), (8, vi s)]) (fun s => []) (fun s => l.length - s) (fun s => s ≤ l.length ∧ Q (vi (idxK k (l.drop s) s)) []) ?_ 0 ⟨Nat.zero_le _, by simpa using h⟩)
  rintro X i ⟨hi, hQ⟩ ih
  try dsimp only at ih ⊢
  repeat' (first
    | simp -implicitDefEqProofs only [go_sem, eI, Int.toNat_natCast, Nat.reduceAdd, Nat.reduceEqDiff, Nat.reduceLT, Nat.reduceBEq, Nat.reduceLeDiff, Nat.reduceSub, Int.reduceLE, Int.reduceNeg, Int.reduceEq, Int.reduceToNat]
    | with_reducible refine know_of fun _ => ?_
    | (with_reducible refine does_then (all_1 _ _ _ ?_))
    | with_reducible refine ifD1 (by omega) ?_
    | with_reducible refine ifD0 (by omega) ?_
    | with_reducible refine ifE1 (by omega) ?_
    | with_reducible refine ifE0 (by omega) ?_
    | with_reducible refine ifN1 (by omega) ?_
    | with_reducible refine ifN0 (by omega) ?_
    | with_reducible refine ifD_of (fun _ => ?_) (fun _ => ?_)
    | with_reducible refine ifE_of (fun _ => ?_) (fun _ => ?_)
    | with_reducible refine ifN_of (fun _ => ?_) (fun _ => ?_)
    | with_reducible refine Go.V.if1 (by assumption) ?_
    | with_reducible refine Go.V.if0 (by assumption) ?_
    | with_reducible refine if_of (fun _ => ?_) (fun _ => ?_)
    | with_reducible refine s_of (idx_get _ _ _ (by omega) (by omega)) ?_
    | with_reducible refine s_of (idx_get _ _ _ (by omega) (by simp only [List.length_set, List.length_append, List.length_take, List.length_drop, List.length_reverse, List.length_singleton]; omega)) ?_
    | with_reducible refine s_of (map_get _ _ _ (by omega)) ?_
    | with_reducible refine s_of (map_get _ _ _ (by simp only [List.length_set]; omega)) ?_
    | with_reducible refine s_of (if_neg (by omega)) ?_
    | with_reducible refine s_of (if_pos (by omega)) ?_
    | with_reducible refine need_of (by omega) ?_
    | with_reducible refine nil_of (fun _ => ?_) ?_
    | with_reducible refine alt_of ?_ ?_
    | (with_reducible apply join_of; intro _ _)
    | with_reducible assumption)
  · rw [drop_getD l i (by omega), idxK, if_pos (by assumption)] at hQ; exact hQ
  · rw [drop_getD l i (by omega), idxK, if_neg (by simp only [ne_eq, Decidable.not_not]; assumption)] at hQ
    rw [wnat i (by omega)]
    exact ih (i + 1) (by omega) ⟨by omega, hQ⟩
  · rw [List.drop_eq_nil_of_le (by omega)] at hQ; exact hQ
theorem contains_ints (l : List Int) (k : Int) (Q : PV → Mem → Prop)  (h : Q (vb !(l.all fun x => x == k)) []) : Does Tryz.prog 171 [.sl (l.map eI), .fn 244 [.cad [vi k]]] [] 0 Q := by
  refine does_of mixed Tryz.func171 rfl (by kernel_rfl) no (slots []) ?_
  simp only [Tryz.f171]
  repeat' (first
    | simp -implicitDefEqProofs only [go_sem, Nat.reduceAdd, Nat.reduceEqDiff, Nat.reduceLT, Nat.reduceBEq, Nat.reduceLeDiff, Nat.reduceSub, Int.reduceLE, Int.reduceNeg, Int.reduceEq, Int.reduceToNat]
    | with_reducible refine know_of fun _ => ?_
    | (with_reducible refine does_then (index_ints _ _ _ ?_))
    | with_reducible refine ifD1 (by omega) ?_
    | with_reducible refine ifD0 (by omega) ?_
    | with_reducible refine ifE1 (by omega) ?_
    | with_reducible refine ifE0 (by omega) ?_
    | with_reducible refine ifN1 (by omega) ?_
    | with_reducible refine ifN0 (by omega) ?_
    | with_reducible refine ifD_of (fun _ => ?_) (fun _ => ?_)
    | with_reducible refine ifE_of (fun _ => ?_) (fun _ => ?_)
    | with_reducible refine ifN_of (fun _ => ?_) (fun _ => ?_)
    | with_reducible refine Go.V.if1 (by assumption) ?_
    | with_reducible refine Go.V.if0 (by assumption) ?_
    | with_reducible refine if_of (fun _ => ?_) (fun _ => ?_)
    | with_reducible refine s_of (idx_get _ _ _ (by omega) (by omega)) ?_
    | with_reducible refine s_of (idx_get _ _ _ (by omega) (by simp only [List.length_set, List.length_append, List.length_take, List.length_drop, List.length_reverse, List.length_singleton]; omega)) ?_
    | with_reducible refine s_of (map_get _ _ _ (by omega)) ?_
    | with_reducible refine s_of (map_get _ _ _ (by simp only [List.length_set]; omega)) ?_
    | with_reducible refine s_of (if_neg (by omega)) ?_
    | with_reducible refine s_of (if_pos (by omega)) ?_
    | with_reducible refine need_of (by omega) ?_
    | with_reducible refine nil_of (fun _ => ?_) ?_
    | with_reducible refine alt_of ?_ ?_
    | (with_reducible apply join_of; intro _ _)
    | with_reducible assumption)
  all_goals (rw [idxK_neg]; exact h)
theorem expr_all (l : List Int) (k : Int) (Q : PV → Mem → Prop)  (h : Q (vb (l.all fun x => x == k)) []) : Does Tryz.prog 236 [.sl (l.map eI), vi k] [] 0 Q := by
  refine does_of mixed Tryz.func236 rfl (by kernel_rfl) no (slots []) ?_
  simp only [Tryz.f236]
  repeat' (first
    | simp -implicitDefEqProofs only [go_sem, Nat.reduceAdd, Nat.reduceEqDiff, Nat.reduceLT, Nat.reduceBEq, Nat.reduceLeDiff, Nat.reduceSub, Int.reduceLE, Int.reduceNeg, Int.reduceEq, Int.reduceToNat]
    | with_reducible refine know_of fun _ => ?_
    | (with_reducible refine does_then (contains_ints _ _ _ ?_))
    | with_reducible refine ifD1 (by omega) ?_
    | with_reducible refine ifD0 (by omega) ?_
    | with_reducible refine ifE1 (by omega) ?_
    | with_reducible refine ifE0 (by omega) ?_
    | with_reducible refine ifN1 (by omega) ?_
    | with_reducible refine ifN0 (by omega) ?_
    | with_reducible refine ifD_of (fun _ => ?_) (fun _ => ?_)
    | with_reducible refine ifE_of (fun _ => ?_) (fun _ => ?_)
    | with_reducible refine ifN_of (fun _ => ?_) (fun _ => ?_)
    | with_reducible refine Go.V.if1 (by assumption) ?_
    | with_reducible refine Go.V.if0 (by assumption) ?_
    | with_reducible refine if_of (fun _ => ?_) (fun _ => ?_)
    | with_reducible refine s_of (idx_get _ _ _ (by omega) (by omega)) ?_
    | with_reducible refine s_of (idx_get _ _ _ (by omega) (by simp only [List.length_set, List.length_append, List.length_take, List.length_drop, List.length_reverse, List.length_singleton]; omega)) ?_
    | with_reducible refine s_of (map_get _ _ _ (by omega)) ?_
    | with_reducible refine s_of (map_get _ _ _ (by simp only [List.length_set]; omega)) ?_
    | with_reducible refine s_of (if_neg (by omega)) ?_
    | with_reducible refine s_of (if_pos (by omega)) ?_
    | with_reducible refine need_of (by omega) ?_
    | with_reducible refine nil_of (fun _ => ?_) ?_
    | with_reducible refine alt_of ?_ ?_
    | (with_reducible apply join_of; intro _ _)
    | with_reducible assumption)
  all_goals first | exact h | (rw [Bool.not_not]; exact h)
def want (op : Int) : Int := if op = 15 ∨ op = 16 then 1 else 0
def fitsK (op : Int) (l : List Int) : Bool :=
  if op = 9 ∨ op = 10 ∨ op = 17 ∨ op = 18 then l.getD 0 default == l.getD 1 default
  else if op = 14 then l.getD 0 default == 0 && l.getD 1 default == l.getD 2 default
  else l.all fun x => x == want op
def kindK (op : Int) (l : List Int) : Int :=
  if op = 9 ∨ op = 10 then 0 else if op = 17 ∨ op = 18 then l.getD 0 default else if op = 14 then l.getD 1 default else if op = 16 then 1 else 0
theorem expr_made (op : Int) (l : List Int) (Q : PV → Mem → Prop) (ho : 3 ≤ op ∧ op ≤ 18) (hl : arity op ≤ (l.length : Int)) (h : Q (.tup [vi (kindK op l), vb (fitsK op l)]) []) : Does Tryz.prog 222 [vi op, .sl (l.map eI)] [] 0 Q := by
  refine does_of mixed Tryz.func222 rfl (by kernel_rfl) no (slots []) ?_
  simp only [Tryz.f222]
  have ha : (op = 14 → 3 ≤ l.length) ∧ (¬ (op = 8 ∨ op = 11 ∨ op = 15 ∨ op = 14) → 2 ≤ l.length) := by
    unfold arity at hl; (repeat' split at hl) <;> omega
  repeat' (first
    | simp -implicitDefEqProofs only [go_sem, eI, Int.reduceToNat, Nat.reduceAdd, Nat.reduceEqDiff, Nat.reduceLT, Nat.reduceBEq, Nat.reduceLeDiff, Nat.reduceSub, Int.reduceLE, Int.reduceNeg, Int.reduceEq, Int.reduceToNat]
    | with_reducible refine know_of fun _ => ?_
    | (with_reducible refine does_then (expr_all _ _ _ ?_))
    | with_reducible refine ifD1 (by omega) ?_
    | with_reducible refine ifD0 (by omega) ?_
    | with_reducible refine ifE1 (by omega) ?_
    | with_reducible refine ifE0 (by omega) ?_
    | with_reducible refine ifN1 (by omega) ?_
    | with_reducible refine ifN0 (by omega) ?_
    | with_reducible refine ifD_of (fun _ => ?_) (fun _ => ?_)
    | with_reducible refine ifE_of (fun _ => ?_) (fun _ => ?_)
    | with_reducible refine ifN_of (fun _ => ?_) (fun _ => ?_)
    | with_reducible refine Go.V.if1 (by assumption) ?_
    | with_reducible refine Go.V.if0 (by assumption) ?_
    | with_reducible refine if_of (fun _ => ?_) (fun _ => ?_)
    | with_reducible refine s_of (idx_get _ _ _ (by omega) (by omega)) ?_
    | with_reducible refine s_of (idx_get _ _ _ (by omega) (by simp only [List.length_set, List.length_append, List.length_take, List.length_drop, List.length_reverse, List.length_singleton]; omega)) ?_
    | with_reducible refine s_of (map_get _ _ _ (by omega)) ?_
    | with_reducible refine s_of (map_get _ _ _ (by simp only [List.length_set]; omega)) ?_
    | with_reducible refine s_of (if_neg (by omega)) ?_
    | with_reducible refine s_of (if_pos (by omega)) ?_
    | with_reducible refine need_of (by omega) ?_
    | with_reducible refine nil_of (fun _ => ?_) ?_
    | with_reducible refine alt_of ?_ ?_
    | (with_reducible apply join_of; intro _ _)
    | with_reducible assumption)
  all_goals first
    | (have hop : op = 14 := by omega
       subst hop
       rw [show fitsK 14 l = (l.getD 0 default == 0 && l.getD 1 default == l.getD 2 default) from rfl, show kindK 14 l = l.getD 1 default from rfl] at h
       first
       | (rw [show l.getD 0 default = 0 by assumption] at h; simpa only [BEq.rfl, Bool.true_and] using h)
       | (rw [show (l.getD 0 default == 0) = false from by simpa using (show l.getD 0 default ≠ 0 by assumption)] at h; simpa only [Bool.false_and] using h))
    | (have hop : op = 3 ∨ op = 4 ∨ op = 5 ∨ op = 6 ∨ op = 7 ∨ op = 8 ∨ op = 9 ∨ op = 10 ∨ op = 11 ∨ op = 12 ∨ op = 13 ∨ op = 15 ∨ op = 16 ∨ op = 17 ∨ op = 18 := by omega
       rcases hop with hop | hop | hop | hop | hop | hop | hop | hop | hop | hop | hop | hop | hop | hop | hop <;> subst hop <;> first | exact h | contradiction)
end Go.V
