import Derived.Test.YtfmhmlijnidflaaGX
import Derived.Test.YtfmhmlijnidflaaLJ
namespace Go.V
open Go Go.RowKit Go.Proofs
set_option maxRecDepth 100000
set_option maxHeartbeats 4000000
set_option linter.unusedVariables false
set_option linter.unusedSimpArgs false
def fitsR : List Val → List Int → Bool
  | [], [] => true
  | v :: r, k :: l => v.kind == k && fitsR r l
  | _, _ => false
theorem fitsR_len : ∀ (r : List Val) (l : List Int), fitsR r l = true → r.length = l.length
  | [], [], _ => rfl
  | v :: r, k :: l, h => by simp only [fitsR, Bool.and_eq_true] at h; simp [fitsR_len r l h.2]
  | [], _ :: _, h => by cases h
  | _ :: _, [], h => by cases h
theorem fitsR_ne : ∀ (r : List Val) (l : List Int), r.length ≠ l.length → fitsR r l = false := fun r l h => by
  cases hf : fitsR r l with
  | false => rfl
  | true => exact absurd (fitsR_len r l hf) h
def pairG (a b d : Int) : Count := ⟨[⟨0, a, strE⟩, ⟨0, b, strE⟩], d⟩
def ex15 : List Count := [pairG 1 5 2, pairG 1 7 1, pairG 2 9 (-1)]
theorem ref03_Fits (r : List Val) (l : List Int) (Q : PV → Mem → Prop)  (h : Q (vb (fitsR r l)) []) : Does Try.prog 30 [.sl (r.map eV), .sl (l.map eI)] [] 0 Q := by
  refine does_of mixed Try.func30 rfl (by kernel_rfl) no (slots [(0, [0, 1, 5])]) ?_
  simp only [Try.f30]
  repeat' (first
    | simp -implicitDefEqProofs only [go_sem, eV, eI, Nat.reduceAdd, Nat.reduceEqDiff, Nat.reduceLT, Nat.reduceBEq, Nat.reduceLeDiff, Nat.reduceSub, Int.reduceLE, Int.reduceNeg, Int.reduceEq, Int.reduceToNat]
    | with_reducible refine know_of fun _ => ?_
    | with_reducible refine ifD1 (by omega) ?_
    | with_reducible refine ifD0 (by omega) ?_
    | with_reducible refine ifE1 (by omega) ?_
    | with_reducible refine ifE0 (by omega) ?_
    | with_reducible refine ifN1 (by omega) ?_
    | with_reducible refine ifN0 (by omega) ?_
    | with_reducible refine ifD_of (fun _ => ?_) (fun _ => ?_)
    | with_reducible refine ifE_of (fun _ => ?_) (fun _ => ?_)
    | with_reducible refine ifN_of (fun _ => ?_) (fun _ => ?_)
    | with_reducible refine Go.V.if1 (by assumption) ?_
    | with_reducible refine Go.V.if0 (by assumption) ?_
    | with_reducible refine if_of (fun _ => ?_) (fun _ => ?_)
    | with_reducible refine s_of (idx_get _ _ _ (by omega) (by omega)) ?_
    | with_reducible refine s_of (idx_get _ _ _ (by omega) (by simp only [List.length_set, List.length_append, List.length_take, List.length_drop, List.length_reverse, List.length_singleton]; omega)) ?_
    | with_reducible refine s_of (map_get _ _ _ (by omega)) ?_
    | with_reducible refine s_of (map_get _ _ _ (by simp only [List.length_set]; omega)) ?_
    | with_reducible refine s_of (if_neg (by omega)) ?_
    | with_reducible refine s_of (if_pos (by omega)) ?_
    | with_reducible refine need_of (by omega) ?_
    | with_reducible refine nil_of (fun _ => ?_) ?_
    | with_reducible refine alt_of ?_ ?_
    | (with_reducible apply join_of; intro _ _)
    | with_reducible assumption)
  · rw [fitsR_ne r l (by omega)] at h; exact h
  refine loop_then (loop_ind (σ := Nat) (fun s => [(0, .sl (r.map eV)), (1, .sl (l.map eI)), (5, vi s)]) (fun s => []) (fun s => r.length - s) (fun s => s ≤ r.length ∧ fitsR (r.drop s) (l.drop s) = fitsR r l) ?_ 0 ⟨Nat.zero_le _, rfl⟩)
  rintro X i ⟨hi, hs⟩ ih
  try dsimp only at ih ⊢
  repeat' (first
    | simp -implicitDefEqProofs only [go_sem, eV, eI, Int.toNat_natCast, Nat.reduceAdd, Nat.reduceEqDiff, Nat.reduceLT, Nat.reduceBEq, Nat.reduceLeDiff, Nat.reduceSub, Int.reduceLE, Int.reduceNeg, Int.reduceEq, Int.reduceToNat]
    | with_reducible refine know_of fun _ => ?_
    | with_reducible refine ifD1 (by omega) ?_
    | with_reducible refine ifD0 (by omega) ?_
    | with_reducible refine ifE1 (by omega) ?_
    | with_reducible refine ifE0 (by omega) ?_
    | with_reducible refine ifN1 (by omega) ?_
    | with_reducible refine ifN0 (by omega) ?_
    | with_reducible refine ifD_of (fun _ => ?_) (fun _ => ?_)
    | with_reducible refine ifE_of (fun _ => ?_) (fun _ => ?_)
    | with_reducible refine ifN_of (fun _ => ?_) (fun _ => ?_)
    | with_reducible refine Go.V.if1 (by assumption) ?_
    | with_reducible refine Go.V.if0 (by assumption) ?_
    | with_reducible refine if_of (fun _ => ?_) (fun _ => ?_)
    | with_reducible refine s_of (idx_get _ _ _ (by omega) (by omega)) ?_
    | with_reducible refine s_of (idx_get _ _ _ (by omega) (by simp only [List.length_set, List.length_append, List.length_take, List.length_drop, List.length_reverse, List.length_singleton]; omega)) ?_
    | with_reducible refine s_of (map_get _ _ _ (by omega)) ?_
    | with_reducible refine s_of (map_get _ _ _ (by simp only [List.length_set]; omega)) ?_
    | with_reducible refine s_of (if_neg (by omega)) ?_
    | with_reducible refine s_of (if_pos (by omega)) ?_
    | with_reducible refine need_of (by omega) ?_
    | with_reducible refine nil_of (fun _ => ?_) ?_
    | with_reducible refine alt_of ?_ ?_
    | (with_reducible apply join_of; intro _ _)
    | with_reducible assumption)
  · rename_i hne
    rw [drop_getD r i (by omega), drop_getD l i (by omega), fitsR, beq_eq_false_iff_ne.2 hne, Bool.false_and] at hs
    rw [← hs] at h; exact h
  · rename_i he _
    rw [drop_getD r i (by omega), drop_getD l i (by omega), fitsR, beq_iff_eq.2 he, Bool.true_and] at hs
    rw [wnat i (by omega)]
    exact ih (i + 1) (by omega) ⟨by omega, hs⟩
  · rw [List.drop_eq_nil_of_le (by omega), List.drop_eq_nil_of_le (by omega)] at hs
    rw [← hs] at h; exact h
theorem law15_code (n : Int) (Q : PV → Mem → Prop)  (h : Q (vi n) []) : Does Try.prog 26 [vi n] [] 0 Q := by
  refine does_of mixed Try.func26 rfl (by kernel_rfl) no (slots []) ?_
  simp only [Try.f26]
  repeat' (first
    | simp -implicitDefEqProofs only [go_sem, Nat.reduceAdd, Nat.reduceEqDiff, Nat.reduceLT, Nat.reduceBEq, Nat.reduceLeDiff, Nat.reduceSub, Int.reduceLE, Int.reduceNeg, Int.reduceEq, Int.reduceToNat]
    | with_reducible refine know_of fun _ => ?_
    | with_reducible refine ifD1 (by omega) ?_
    | with_reducible refine ifD0 (by omega) ?_
    | with_reducible refine ifE1 (by omega) ?_
    | with_reducible refine ifE0 (by omega) ?_
    | with_reducible refine ifN1 (by omega) ?_
    | with_reducible refine ifN0 (by omega) ?_
    | with_reducible refine ifD_of (fun _ => ?_) (fun _ => ?_)
    | with_reducible refine ifE_of (fun _ => ?_) (fun _ => ?_)
    | with_reducible refine ifN_of (fun _ => ?_) (fun _ => ?_)
    | with_reducible refine Go.V.if1 (by assumption) ?_
    | with_reducible refine Go.V.if0 (by assumption) ?_
    | with_reducible refine if_of (fun _ => ?_) (fun _ => ?_)
    | with_reducible refine s_of (idx_get _ _ _ (by omega) (by omega)) ?_
    | with_reducible refine s_of (idx_get _ _ _ (by omega) (by simp only [List.length_set, List.length_append, List.length_take, List.length_drop, List.length_reverse, List.length_singleton]; omega)) ?_
    | with_reducible refine s_of (map_get _ _ _ (by omega)) ?_
    | with_reducible refine s_of (map_get _ _ _ (by simp only [List.length_set]; omega)) ?_
    | with_reducible refine s_of (if_neg (by omega)) ?_
    | with_reducible refine s_of (if_pos (by omega)) ?_
    | with_reducible refine need_of (by omega) ?_
    | with_reducible refine nil_of (fun _ => ?_) ?_
    | with_reducible refine alt_of ?_ ?_
    | (with_reducible apply join_of; intro _ _)
    | with_reducible assumption)
  all_goals first | exact h | simpa using h
theorem law15_pair (a b d : Int) (Q : PV → Mem → Prop)  (h : Q (.agg [.own 0, vi d]) [.row 47 [[vi 0, vi a, vs strE], [vi 0, vi b, vs strE]]]) : Does Try.prog 54 [vi a, vi b, vi d] [] 0 Q := by
  refine does_of mixed Try.func54 rfl (by kernel_rfl) no (slots []) ?_
  simp only [Try.f54]
  repeat' (first
    | simp -implicitDefEqProofs only [go_sem, Nat.reduceAdd, Nat.reduceEqDiff, Nat.reduceLT, Nat.reduceBEq, Nat.reduceLeDiff, Nat.reduceSub, Int.reduceLE, Int.reduceNeg, Int.reduceEq, Int.reduceToNat]
    | with_reducible refine know_of fun _ => ?_
    | with_reducible refine ifD1 (by omega) ?_
    | with_reducible refine ifD0 (by omega) ?_
    | with_reducible refine ifE1 (by omega) ?_
    | with_reducible refine ifE0 (by omega) ?_
    | with_reducible refine ifN1 (by omega) ?_
    | with_reducible refine ifN0 (by omega) ?_
    | with_reducible refine ifD_of (fun _ => ?_) (fun _ => ?_)
    | with_reducible refine ifE_of (fun _ => ?_) (fun _ => ?_)
    | with_reducible refine ifN_of (fun _ => ?_) (fun _ => ?_)
    | with_reducible refine Go.V.if1 (by assumption) ?_
    | with_reducible refine Go.V.if0 (by assumption) ?_
    | with_reducible refine if_of (fun _ => ?_) (fun _ => ?_)
    | with_reducible refine s_of (idx_get _ _ _ (by omega) (by omega)) ?_
    | with_reducible refine s_of (idx_get _ _ _ (by omega) (by simp only [List.length_set, List.length_append, List.length_take, List.length_drop, List.length_reverse, List.length_singleton]; omega)) ?_
    | with_reducible refine s_of (map_get _ _ _ (by omega)) ?_
    | with_reducible refine s_of (map_get _ _ _ (by simp only [List.length_set]; omega)) ?_
    | with_reducible refine s_of (if_neg (by omega)) ?_
    | with_reducible refine s_of (if_pos (by omega)) ?_
    | with_reducible refine need_of (by omega) ?_
    | with_reducible refine nil_of (fun _ => ?_) ?_
    | with_reducible refine alt_of ?_ ?_
    | (with_reducible apply join_of; intro _ _)
    | with_reducible assumption)
  all_goals first | exact h | simpa using h
theorem ex_less : lessC [⟨[⟨0, 1, strE⟩, ⟨0, 5, strE⟩], 2⟩, ⟨[⟨0, 1, strE⟩, ⟨0, 7, strE⟩], 1⟩, ⟨[⟨0, 2, strE⟩, ⟨0, 9, strE⟩], (-1)⟩] = ([⟨[⟨0, 1, strE⟩, ⟨0, 5, strE⟩], 2⟩, ⟨[⟨0, 1, strE⟩, ⟨0, 7, strE⟩], 1⟩, ⟨[⟨0, 2, strE⟩, ⟨0, 9, strE⟩], (-1)⟩], 0) := by decide +kernel
theorem ex_cut : cutG (sameK 1) [⟨[⟨0, 1, strE⟩, ⟨0, 5, strE⟩], 2⟩, ⟨[⟨0, 1, strE⟩, ⟨0, 7, strE⟩], 1⟩, ⟨[⟨0, 2, strE⟩, ⟨0, 9, strE⟩], (-1)⟩] = [[⟨[⟨0, 1, strE⟩, ⟨0, 5, strE⟩], 2⟩, ⟨[⟨0, 1, strE⟩, ⟨0, 7, strE⟩], 1⟩], [⟨[⟨0, 2, strE⟩, ⟨0, 9, strE⟩], (-1)⟩]] := by
  rw [cutG, show List.takeWhile (sameK 1 ⟨[⟨0, 1, strE⟩, ⟨0, 5, strE⟩], 2⟩) [⟨[⟨0, 1, strE⟩, ⟨0, 7, strE⟩], 1⟩, ⟨[⟨0, 2, strE⟩, ⟨0, 9, strE⟩], (-1)⟩] = [⟨[⟨0, 1, strE⟩, ⟨0, 7, strE⟩], 1⟩] from by decide +kernel, show List.dropWhile (sameK 1 ⟨[⟨0, 1, strE⟩, ⟨0, 5, strE⟩], 2⟩) [⟨[⟨0, 1, strE⟩, ⟨0, 7, strE⟩], 1⟩, ⟨[⟨0, 2, strE⟩, ⟨0, 9, strE⟩], (-1)⟩] = [⟨[⟨0, 2, strE⟩, ⟨0, 9, strE⟩], (-1)⟩] from by decide +kernel, cutG, List.takeWhile_nil, List.dropWhile_nil, cutG]
theorem ex_make1 : makeG 1 1 0 [⟨[⟨0, 1, strE⟩, ⟨0, 5, strE⟩], 2⟩, ⟨[⟨0, 1, strE⟩, ⟨0, 7, strE⟩], 1⟩, ⟨[⟨0, 2, strE⟩, ⟨0, 9, strE⟩], (-1)⟩] = ([⟨[⟨0, 1, strE⟩, ⟨0, 3, strE⟩], 1⟩, ⟨[⟨0, 2, strE⟩, ⟨0, (-1), strE⟩], 1⟩], 0) := by
  rw [makeG, if_neg (by decide), show keyK 1 1 = 1 from rfl, if_neg (by decide +kernel), if_neg (by decide), ex_less, if_neg (by decide), show ((1 : Int)).toNat = 1 from rfl, ex_cut]
  decide +kernel
theorem live_make1 (Q : PV → Mem → Prop) (h : Q (.tup [.own 0, vi 0]) [.row 59 [[.sl [[vi 0, vi 1, vs strE], [vi 0, vi 3, vs strE]], vi 1], [.sl [[vi 0, vi 2, vs strE], [vi 0, vi (-1), vs strE]], vi 1]]]) : Does Try.prog 23 [vi 1, vi 1, vi 0, .sl [[.sl [[vi 0, vi 1, vs strE], [vi 0, vi 5, vs strE]], vi 2], [.sl [[vi 0, vi 1, vs strE], [vi 0, vi 7, vs strE]], vi 1], [.sl [[vi 0, vi 2, vs strE], [vi 0, vi 9, vs strE]], vi (-1)]]] [] 0 Q :=
  group_Make 1 1 0 [⟨[⟨0, 1, strE⟩, ⟨0, 5, strE⟩], 2⟩, ⟨[⟨0, 1, strE⟩, ⟨0, 7, strE⟩], 1⟩, ⟨[⟨0, 2, strE⟩, ⟨0, 9, strE⟩], (-1)⟩] Q (by decide) (by decide) (by rw [ex_make1]; exact h)
theorem live_same1 (Q : PV → Mem → Prop) (h : Q (vb true) []) : Does Try.prog 25 [.sl [[.sl [[vi 0, vi 1, vs strE], [vi 0, vi 3, vs strE]], vi 1], [.sl [[vi 0, vi 2, vs strE], [vi 0, vi (-1), vs strE]], vi 1]], .sl [[.sl [[vi 0, vi 1, vs strE], [vi 0, vi 3, vs strE]], vi 1], [.sl [[vi 0, vi 2, vs strE], [vi 0, vi (-1), vs strE]], vi 1]]] [] 0 Q :=
  ref07_SameCounts [⟨[⟨0, 1, strE⟩, ⟨0, 3, strE⟩], 1⟩, ⟨[⟨0, 2, strE⟩, ⟨0, (-1), strE⟩], 1⟩] [⟨[⟨0, 1, strE⟩, ⟨0, 3, strE⟩], 1⟩, ⟨[⟨0, 2, strE⟩, ⟨0, (-1), strE⟩], 1⟩] Q (by rw [show sameC [⟨[⟨0, 1, strE⟩, ⟨0, 3, strE⟩], 1⟩, ⟨[⟨0, 2, strE⟩, ⟨0, (-1), strE⟩], 1⟩] [⟨[⟨0, 1, strE⟩, ⟨0, 3, strE⟩], 1⟩, ⟨[⟨0, 2, strE⟩, ⟨0, (-1), strE⟩], 1⟩] = true from by decide +kernel]; exact h)
theorem ex_make2 : makeG 2 1 1 [⟨[⟨0, 1, strE⟩, ⟨0, 5, strE⟩], 2⟩, ⟨[⟨0, 1, strE⟩, ⟨0, 7, strE⟩], 1⟩, ⟨[⟨0, 2, strE⟩, ⟨0, 9, strE⟩], (-1)⟩] = ([⟨[⟨0, 1, strE⟩, ⟨0, 17, strE⟩], 1⟩, ⟨[⟨0, 2, strE⟩, ⟨0, (-9), strE⟩], 1⟩], 0) := by
  rw [makeG, if_neg (by decide), show keyK 2 1 = 1 from rfl, if_neg (by decide +kernel), if_neg (by decide), ex_less, if_neg (by decide), show ((1 : Int)).toNat = 1 from rfl, ex_cut]
  decide +kernel
theorem live_make2 (Q : PV → Mem → Prop) (h : Q (.tup [.own 0, vi 0]) [.row 59 [[.sl [[vi 0, vi 1, vs strE], [vi 0, vi 17, vs strE]], vi 1], [.sl [[vi 0, vi 2, vs strE], [vi 0, vi (-9), vs strE]], vi 1]]]) : Does Try.prog 23 [vi 2, vi 1, vi 1, .sl [[.sl [[vi 0, vi 1, vs strE], [vi 0, vi 5, vs strE]], vi 2], [.sl [[vi 0, vi 1, vs strE], [vi 0, vi 7, vs strE]], vi 1], [.sl [[vi 0, vi 2, vs strE], [vi 0, vi 9, vs strE]], vi (-1)]]] [] 0 Q :=
  group_Make 2 1 1 [⟨[⟨0, 1, strE⟩, ⟨0, 5, strE⟩], 2⟩, ⟨[⟨0, 1, strE⟩, ⟨0, 7, strE⟩], 1⟩, ⟨[⟨0, 2, strE⟩, ⟨0, 9, strE⟩], (-1)⟩] Q (by decide) (by decide) (by rw [ex_make2]; exact h)
theorem live_same2 (Q : PV → Mem → Prop) (h : Q (vb true) []) : Does Try.prog 25 [.sl [[.sl [[vi 0, vi 1, vs strE], [vi 0, vi 17, vs strE]], vi 1], [.sl [[vi 0, vi 2, vs strE], [vi 0, vi (-9), vs strE]], vi 1]], .sl [[.sl [[vi 0, vi 1, vs strE], [vi 0, vi 17, vs strE]], vi 1], [.sl [[vi 0, vi 2, vs strE], [vi 0, vi (-9), vs strE]], vi 1]]] [] 0 Q :=
  ref07_SameCounts [⟨[⟨0, 1, strE⟩, ⟨0, 17, strE⟩], 1⟩, ⟨[⟨0, 2, strE⟩, ⟨0, (-9), strE⟩], 1⟩] [⟨[⟨0, 1, strE⟩, ⟨0, 17, strE⟩], 1⟩, ⟨[⟨0, 2, strE⟩, ⟨0, (-9), strE⟩], 1⟩] Q (by rw [show sameC [⟨[⟨0, 1, strE⟩, ⟨0, 17, strE⟩], 1⟩, ⟨[⟨0, 2, strE⟩, ⟨0, (-9), strE⟩], 1⟩] [⟨[⟨0, 1, strE⟩, ⟨0, 17, strE⟩], 1⟩, ⟨[⟨0, 2, strE⟩, ⟨0, (-9), strE⟩], 1⟩] = true from by decide +kernel]; exact h)
theorem ex_make5 : makeG 5 1 2 [⟨[⟨0, 1, strE⟩, ⟨0, 5, strE⟩], 2⟩, ⟨[⟨0, 1, strE⟩, ⟨0, 7, strE⟩], 1⟩, ⟨[⟨0, 2, strE⟩, ⟨0, 9, strE⟩], (-1)⟩] = ([⟨[⟨0, 1, strE⟩, ⟨0, 5, strE⟩], 2⟩], 0) := by
  rw [makeG, if_neg (by decide), show keyK 5 1 = 1 from rfl, if_neg (by decide +kernel), if_neg (by decide), ex_less, if_neg (by decide), show ((1 : Int)).toNat = 1 from rfl, ex_cut]
  decide +kernel
theorem live_make5 (Q : PV → Mem → Prop) (h : Q (.tup [.own 0, vi 0]) [.row 59 [[.sl [[vi 0, vi 1, vs strE], [vi 0, vi 5, vs strE]], vi 2]]]) : Does Try.prog 23 [vi 5, vi 1, vi 2, .sl [[.sl [[vi 0, vi 1, vs strE], [vi 0, vi 5, vs strE]], vi 2], [.sl [[vi 0, vi 1, vs strE], [vi 0, vi 7, vs strE]], vi 1], [.sl [[vi 0, vi 2, vs strE], [vi 0, vi 9, vs strE]], vi (-1)]]] [] 0 Q :=
  group_Make 5 1 2 [⟨[⟨0, 1, strE⟩, ⟨0, 5, strE⟩], 2⟩, ⟨[⟨0, 1, strE⟩, ⟨0, 7, strE⟩], 1⟩, ⟨[⟨0, 2, strE⟩, ⟨0, 9, strE⟩], (-1)⟩] Q (by decide) (by decide) (by rw [ex_make5]; exact h)
theorem live_same5 (Q : PV → Mem → Prop) (h : Q (vb true) []) : Does Try.prog 25 [.sl [[.sl [[vi 0, vi 1, vs strE], [vi 0, vi 5, vs strE]], vi 2]], .sl [[.sl [[vi 0, vi 1, vs strE], [vi 0, vi 5, vs strE]], vi 2]]] [] 0 Q :=
  ref07_SameCounts [⟨[⟨0, 1, strE⟩, ⟨0, 5, strE⟩], 2⟩] [⟨[⟨0, 1, strE⟩, ⟨0, 5, strE⟩], 2⟩] Q (by rw [show sameC [⟨[⟨0, 1, strE⟩, ⟨0, 5, strE⟩], 2⟩] [⟨[⟨0, 1, strE⟩, ⟨0, 5, strE⟩], 2⟩] = true from by decide +kernel]; exact h)
theorem law15_live  (Q : PV → Mem → Prop)  (h : Q (vb true) []) : Does Try.prog 22 [] [] 0 Q := by
  refine does_of mixed Try.func22 rfl (by kernel_rfl) no (slots []) ?_
  simp only [Try.f22]
  repeat' (first
    | refine need_of (of_eq_true (fitC [⟨[⟨0, 1, strE⟩, ⟨0, 5, strE⟩], 2⟩, ⟨[⟨0, 1, strE⟩, ⟨0, 7, strE⟩], 1⟩, ⟨[⟨0, 2, strE⟩, ⟨0, 9, strE⟩], (-1)⟩])) ?_
    | refine need_of (of_eq_true (fitC [⟨[⟨0, 1, strE⟩, ⟨0, 3, strE⟩], 1⟩, ⟨[⟨0, 2, strE⟩, ⟨0, (-1), strE⟩], 1⟩])) ?_
    | refine need_of (of_eq_true (fitC [⟨[⟨0, 1, strE⟩, ⟨0, 17, strE⟩], 1⟩, ⟨[⟨0, 2, strE⟩, ⟨0, (-9), strE⟩], 1⟩])) ?_
    | refine need_of (of_eq_true (fitC [⟨[⟨0, 1, strE⟩, ⟨0, 5, strE⟩], 2⟩])) ?_
    | simp -implicitDefEqProofs only [go_sem, Nat.reduceAdd, Nat.reduceEqDiff, Nat.reduceLT, Nat.reduceBEq, Nat.reduceLeDiff, Nat.reduceSub, Int.reduceLE, Int.reduceNeg, Int.reduceEq, Int.reduceToNat]
    | with_reducible refine know_of fun _ => ?_
    | (with_reducible refine does_then (law15_pair _ _ _ _ ?_))
    | (with_reducible refine does_then (live_make1 _ ?_))
    | (with_reducible refine does_then (live_make2 _ ?_))
    | (with_reducible refine does_then (live_make5 _ ?_))
    | (with_reducible refine does_then (law15_code _ _ ?_))
    | (with_reducible refine does_then (live_same1 _ ?_))
    | (with_reducible refine does_then (live_same2 _ ?_))
    | (with_reducible refine does_then (live_same5 _ ?_))
    | with_reducible refine ifD1 (by omega) ?_
    | with_reducible refine ifD0 (by omega) ?_
    | with_reducible refine ifE1 (by omega) ?_
    | with_reducible refine ifE0 (by omega) ?_
    | with_reducible refine ifN1 (by omega) ?_
    | with_reducible refine ifN0 (by omega) ?_
    | with_reducible refine ifD_of (fun _ => ?_) (fun _ => ?_)
    | with_reducible refine ifE_of (fun _ => ?_) (fun _ => ?_)
    | with_reducible refine ifN_of (fun _ => ?_) (fun _ => ?_)
    | with_reducible refine Go.V.if1 (by assumption) ?_
    | with_reducible refine Go.V.if0 (by assumption) ?_
    | with_reducible refine if_of (fun _ => ?_) (fun _ => ?_)
    | with_reducible refine s_of (idx_get _ _ _ (by omega) (by omega)) ?_
    | with_reducible refine s_of (idx_get _ _ _ (by omega) (by simp only [List.length_set, List.length_append, List.length_take, List.length_drop, List.length_reverse, List.length_singleton]; omega)) ?_
    | with_reducible refine s_of (map_get _ _ _ (by omega)) ?_
    | with_reducible refine s_of (map_get _ _ _ (by simp only [List.length_set]; omega)) ?_
    | with_reducible refine s_of (if_neg (by omega)) ?_
    | with_reducible refine s_of (if_pos (by omega)) ?_
    | with_reducible refine need_of (by omega) ?_
    | with_reducible refine nil_of (fun _ => ?_) ?_
    | with_reducible refine alt_of ?_ ?_
    | (with_reducible apply join_of; intro _ _)
    | with_reducible assumption)
  all_goals first | exact h | (rename_i hh; exact absurd (by rw [show w64 (0 + 0) = 0 from w64_of _ (by omega)]; exact w64_of (0 + 0) (by omega)) hh)
end Go.V
namespace Go.V
open Go Go.RowKit Go.Proofs
set_option maxRecDepth 100000
set_option maxHeartbeats 4000000
set_option linter.unusedVariables false
set_option linter.unusedSimpArgs false
theorem muchC_no {l : List Count} (h : muchC l = false) : l.length ≤ 60 ∧ ∀ c ∈ l, c.row.length ≤ 30 := by
  simp only [muchC, Bool.or_eq_false_iff, decide_eq_false_iff_not, List.any_eq_false] at h
  refine ⟨by omega, fun c hc => ?_⟩
  have := h.2 c hc
  simp only [longR, Bool.or_eq_true, decide_eq_true_eq, not_or] at this
  omega
theorem checkG_len (kind key n : Int) (kinds : List Int) : (checkG kind key n kinds).1.length ≤ kinds.length + 1 := by
  unfold checkG
  repeat' split
  all_goals simp
  all_goals omega
theorem ofAll_len (kind n : Int) (k : Nat) : ∀ (ps : List (List Count)) (acc : List Count), (∀ p ∈ ps, p ≠ []) → (ofAll kind n k ps acc).1.length ≤ acc.length + lenL ps
  | [], acc, _ => by simp [ofAll, lenL]
  | p :: ps, acc, h => by
    rw [ofAll]
    split
    · simp
    · have h1 := ofAll_len kind n k ps (acc ++ (ofG kind n ((p.getD 0 default).row.take k) p).1) (fun q hq => h q (List.mem_cons_of_mem _ hq))
      have h2 := ofG_len kind n ((p.getD 0 default).row.take k) p (h p (List.mem_cons_self ..))
      rw [List.length_append] at h1
      simp only [lenL, List.map_cons, List.sum_cons] at h1 ⊢
      omega
theorem makeG_len (kind key n : Int) (l : List Count) : (makeG kind key n l).1.length ≤ l.length := by
  unfold makeG
  split
  · simp
  split
  · simp
  split
  · simp
  split
  · simp
  have h1 := ofAll_len kind n (keyK kind key).toNat (cutG (sameK (keyK kind key).toNat) (lessC l).1) [] (fun p hp => cutG_ne _ _ _ (Nat.le_refl _) p hp)
  rw [lenL_cut] at h1
  have h2 := lessC_len l
  simpa using Nat.le_trans h1 (by simpa using h2)
theorem law15_Fits (kind key n : Int) (kinds : List Int) (l : List Count) (Q : PV → Mem → Prop) (H1 : muchC l = false → kinds.length ≤ 20 → (checkG kind key n kinds).2 = 0 → (∀ c ∈ l, fitsR c.row kinds = true) → (makeG kind key n l).2 ≠ 0 → (makeG kind key n l).2 = 60 ∧ (makeG kind key n l).1.length = 0) (H2 : muchC l = false → kinds.length ≤ 20 → (checkG kind key n kinds).2 = 0 → (∀ c ∈ l, fitsR c.row kinds = true) → (makeG kind key n l).2 = 0 → ∀ i, i < (makeG kind key n l).1.length → fitsR ((makeG kind key n l).1.getD i default).row (checkG kind key n kinds).1 = true ∧ 1 ≤ ((makeG kind key n l).1.getD i default).diff ∧ (0 < i → orderR ((makeG kind key n l).1.getD (i - 1) default).row ((makeG kind key n l).1.getD i default).row < 0)) (h : Q (vb true) []) : Does Try.prog 6 [vi kind, vi key, vi n, .sl (kinds.map eI), .sl (l.map eC)] [] 0 Q := by
  refine does_of mixed Try.func6 rfl (by kernel_rfl) no (slots [(0, [0, 1, 2, 3, 4, 11, 13]), (2, [11, 14, 16])]) ?_
  simp only [Try.f6]
  have hcl := checkG_len kind key n kinds
  have hml := makeG_len kind key n l
  repeat' (first
    | simp -implicitDefEqProofs only [go_sem, eC, Nat.reduceAdd, Nat.reduceEqDiff, Nat.reduceLT, Nat.reduceBEq, Nat.reduceLeDiff, Nat.reduceSub, Int.reduceLE, Int.reduceNeg, Int.reduceEq, Int.reduceToNat]
    | with_reducible refine know_of fun _ => ?_
    | (with_reducible refine does_then (ref07_MuchCounts _ _ ?_))
    | (with_reducible refine does_then (law15_live _ ?_))
    | (with_reducible refine does_then (group_Check _ _ _ _ _ (by omega) ?_))
    | (with_reducible refine does_then (law15_code _ _ ?_))
    | with_reducible refine ifD1 (by omega) ?_
    | with_reducible refine ifD0 (by omega) ?_
    | with_reducible refine ifE1 (by omega) ?_
    | with_reducible refine ifE0 (by omega) ?_
    | with_reducible refine ifN1 (by omega) ?_
    | with_reducible refine ifN0 (by omega) ?_
    | with_reducible refine ifD_of (fun _ => ?_) (fun _ => ?_)
    | with_reducible refine ifE_of (fun _ => ?_) (fun _ => ?_)
    | with_reducible refine ifN_of (fun _ => ?_) (fun _ => ?_)
    | with_reducible refine Go.V.if1 (by assumption) ?_
    | with_reducible refine Go.V.if0 (by assumption) ?_
    | with_reducible refine if_of (fun _ => ?_) (fun _ => ?_)
    | with_reducible refine s_of (idx_get _ _ _ (by omega) (by omega)) ?_
    | with_reducible refine s_of (idx_get _ _ _ (by omega) (by simp only [List.length_set, List.length_append, List.length_take, List.length_drop, List.length_reverse, List.length_singleton]; omega)) ?_
    | with_reducible refine s_of (map_get _ _ _ (by omega)) ?_
    | with_reducible refine s_of (map_get _ _ _ (by simp only [List.length_set]; omega)) ?_
    | with_reducible refine s_of (if_neg (by omega)) ?_
    | with_reducible refine s_of (if_pos (by omega)) ?_
    | with_reducible refine need_of (by omega) ?_
    | with_reducible refine nil_of (fun _ => ?_) ?_
    | with_reducible refine alt_of ?_ ?_
    | (with_reducible apply join_of; intro _ _)
    | with_reducible assumption)
  all_goals first | exact h | skip
  have hmu := muchC_no (by assumption)
  refine loop_then (loop_ind (σ := Nat) (fun s => [(0, vi kind), (1, vi key), (2, vi n), (3, .sl (kinds.map eI)), (4, .sl (l.map eC)), (11, .own 0), (13, vi s)]) (fun s => [.row 3 ((checkG kind key n kinds).1.map eI)]) (fun s => l.length - s) (fun s => s ≤ l.length ∧ ∀ j, j < s → fitsR (l.getD j default).row kinds = true) ?_ 0 ⟨Nat.zero_le _, fun j hj => absurd hj (Nat.not_lt_zero _)⟩)
  rintro X i ⟨hi, hf⟩ ih
  try dsimp only at ih ⊢
  repeat' (first
    | simp -implicitDefEqProofs only [go_sem, eC, Int.toNat_natCast, Nat.reduceAdd, Nat.reduceEqDiff, Nat.reduceLT, Nat.reduceBEq, Nat.reduceLeDiff, Nat.reduceSub, Int.reduceLE, Int.reduceNeg, Int.reduceEq, Int.reduceToNat]
    | with_reducible refine know_of fun _ => ?_
    | (with_reducible refine does_then (ref03_Fits _ _ _ ?_))
    | (with_reducible refine does_then (law15_live _ ?_))
    | (with_reducible refine does_then (group_Make _ _ _ _ _ (by omega) (fun c hc => by have := hmu.2 c hc; omega) ?_))
    | (with_reducible refine does_then (law15_code _ _ ?_))
    | with_reducible refine ifD1 (by omega) ?_
    | with_reducible refine ifD0 (by omega) ?_
    | with_reducible refine ifE1 (by omega) ?_
    | with_reducible refine ifE0 (by omega) ?_
    | with_reducible refine ifN1 (by omega) ?_
    | with_reducible refine ifN0 (by omega) ?_
    | with_reducible refine ifD_of (fun _ => ?_) (fun _ => ?_)
    | with_reducible refine ifE_of (fun _ => ?_) (fun _ => ?_)
    | with_reducible refine ifN_of (fun _ => ?_) (fun _ => ?_)
    | with_reducible refine Go.V.if1 (by assumption) ?_
    | with_reducible refine Go.V.if0 (by assumption) ?_
    | with_reducible refine if_of (fun _ => ?_) (fun _ => ?_)
    | with_reducible refine s_of (idx_get _ _ _ (by omega) (by omega)) ?_
    | with_reducible refine s_of (idx_get _ _ _ (by omega) (by simp only [List.length_set, List.length_append, List.length_take, List.length_drop, List.length_reverse, List.length_singleton]; omega)) ?_
    | with_reducible refine s_of (map_get _ _ _ (by omega)) ?_
    | with_reducible refine s_of (map_get _ _ _ (by simp only [List.length_set]; omega)) ?_
    | with_reducible refine s_of (if_neg (by omega)) ?_
    | with_reducible refine s_of (if_pos (by omega)) ?_
    | with_reducible refine need_of (by omega) ?_
    | with_reducible refine nil_of (fun _ => ?_) ?_
    | with_reducible refine alt_of ?_ ?_
    | (with_reducible apply join_of; intro _ _)
    | with_reducible assumption)
  · rename_i hfi _
    rw [wnat i (by omega)]
    refine ih (i + 1) (by omega) ⟨by omega, fun j hj => ?_⟩
    rcases Nat.lt_or_ge j i with h1 | h1
    · exact hf j h1
    · obtain rfl : j = i := by omega
      exact hfi
  all_goals
    have hall : ∀ c ∈ l, fitsR c.row kinds = true := fun c hc => by
      obtain ⟨j, hj, rfl⟩ := List.getElem_of_mem hc
      have := hf j (by omega)
      rwa [List.getD_eq_getElem?_getD, List.getElem?_eq_getElem hj] at this
  · have h1 := H1 (by assumption) (by omega) (by assumption) hall (by assumption); exfalso; omega
  · have h1 := H1 (by assumption) (by omega) (by assumption) hall (by assumption); exfalso; omega
  have h2 := H2 (by assumption) (by omega) (by assumption) hall (by assumption)
  clear H1 H2 ih
  generalize (makeG kind key n l).1 = a at *
  generalize (checkG kind key n kinds).1 = want at *
  refine loop_then (loop_ind (σ := Nat) (fun s => [(11, .own 0), (14, .own 1), (16, vi s)]) (fun s => [.row 3 (want.map eI), .row 59 (a.map eC)]) (fun s => a.length - s) (fun s => s ≤ a.length) ?_ 0 (Nat.zero_le _))
  rintro X k hk ih
  try dsimp only at ih ⊢
  by_cases hkl : k < a.length
  · obtain ⟨g1, g2, g3⟩ := h2 k hkl
    repeat' (first
    | rw [w64_of ((k : Int) - 1) (by omega)]
    | rw [show ((k : Int) - 1).toNat = k - 1 by omega]
    | simp -implicitDefEqProofs only [go_sem, eC, Int.toNat_natCast, Nat.reduceAdd, Nat.reduceEqDiff, Nat.reduceLT, Nat.reduceBEq, Nat.reduceLeDiff, Nat.reduceSub, Int.reduceLE, Int.reduceNeg, Int.reduceEq, Int.reduceToNat]
    | with_reducible refine know_of fun _ => ?_
    | (with_reducible refine does_then (ref03_Fits _ _ _ ?_))
    | (with_reducible refine does_then (ref03_Order _ _ _ ?_))
    | with_reducible refine ifD1 (by omega) ?_
    | with_reducible refine ifD0 (by omega) ?_
    | with_reducible refine ifE1 (by omega) ?_
    | with_reducible refine ifE0 (by omega) ?_
    | with_reducible refine ifN1 (by omega) ?_
    | with_reducible refine ifN0 (by omega) ?_
    | with_reducible refine ifD_of (fun _ => ?_) (fun _ => ?_)
    | with_reducible refine ifE_of (fun _ => ?_) (fun _ => ?_)
    | with_reducible refine ifN_of (fun _ => ?_) (fun _ => ?_)
    | with_reducible refine Go.V.if1 (by assumption) ?_
    | with_reducible refine Go.V.if0 (by assumption) ?_
    | with_reducible refine if_of (fun _ => ?_) (fun _ => ?_)
    | with_reducible refine s_of (idx_get _ _ _ (by omega) (by omega)) ?_
    | with_reducible refine s_of (idx_get _ _ _ (by omega) (by simp only [List.length_set, List.length_append, List.length_take, List.length_drop, List.length_reverse, List.length_singleton]; omega)) ?_
    | with_reducible refine s_of (map_get _ _ _ (by omega)) ?_
    | with_reducible refine s_of (map_get _ _ _ (by simp only [List.length_set]; omega)) ?_
    | with_reducible refine s_of (if_neg (by omega)) ?_
    | with_reducible refine s_of (if_pos (by omega)) ?_
    | with_reducible refine need_of (by omega) ?_
    | with_reducible refine nil_of (fun _ => ?_) ?_
    | with_reducible refine alt_of ?_ ?_
    | (with_reducible apply join_of; intro _ _)
    | with_reducible assumption)
    all_goals (rw [wnat k (by omega)]; exact ih (k + 1) (by omega) (by omega))
  · repeat' (first
    | simp -implicitDefEqProofs only [go_sem, eC, Int.toNat_natCast, Nat.reduceAdd, Nat.reduceEqDiff, Nat.reduceLT, Nat.reduceBEq, Nat.reduceLeDiff, Nat.reduceSub, Int.reduceLE, Int.reduceNeg, Int.reduceEq, Int.reduceToNat]
    | with_reducible refine know_of fun _ => ?_
    | (with_reducible refine does_then (law15_live _ ?_))
    | with_reducible refine ifD1 (by omega) ?_
    | with_reducible refine ifD0 (by omega) ?_
    | with_reducible refine ifE1 (by omega) ?_
    | with_reducible refine ifE0 (by omega) ?_
    | with_reducible refine ifN1 (by omega) ?_
    | with_reducible refine ifN0 (by omega) ?_
    | with_reducible refine ifD_of (fun _ => ?_) (fun _ => ?_)
    | with_reducible refine ifE_of (fun _ => ?_) (fun _ => ?_)
    | with_reducible refine ifN_of (fun _ => ?_) (fun _ => ?_)
    | with_reducible refine Go.V.if1 (by assumption) ?_
    | with_reducible refine Go.V.if0 (by assumption) ?_
    | with_reducible refine if_of (fun _ => ?_) (fun _ => ?_)
    | with_reducible refine s_of (idx_get _ _ _ (by omega) (by omega)) ?_
    | with_reducible refine s_of (idx_get _ _ _ (by omega) (by simp only [List.length_set, List.length_append, List.length_take, List.length_drop, List.length_reverse, List.length_singleton]; omega)) ?_
    | with_reducible refine s_of (map_get _ _ _ (by omega)) ?_
    | with_reducible refine s_of (map_get _ _ _ (by simp only [List.length_set]; omega)) ?_
    | with_reducible refine s_of (if_neg (by omega)) ?_
    | with_reducible refine s_of (if_pos (by omega)) ?_
    | with_reducible refine need_of (by omega) ?_
    | with_reducible refine nil_of (fun _ => ?_) ?_
    | with_reducible refine alt_of ?_ ?_
    | (with_reducible apply join_of; intro _ _)
    | with_reducible assumption)
    all_goals exact h
end Go.V
namespace Go.V
open Go Go.RowKit Go.Proofs
set_option maxRecDepth 100000
set_option maxHeartbeats 4000000
set_option linter.unusedVariables false
set_option linter.unusedSimpArgs false
def clG (kind key : Int) (x y : Count) : Bool := orderR (keyG kind key x.row).1 (keyG kind key y.row).1 == 0
def firstG (kind key : Int) (l : List Count) (i : Nat) : Bool := (List.range i).all fun j => !clG kind key (l.getD j default) (l.getD i default)
def classG (kind key : Int) (l : List Count) (i : Nat) : List Count := l.filter fun y => clG kind key (l.getD i default) y
def partsG (kind key n : Int) (l : List Count) : Nat → List Count
  | 0 => []
  | i + 1 => if firstG kind key l i = true then partsG kind key n l i ++ (makeG kind key n (classG kind key l i)).1 else partsG kind key n l i
theorem clG_refl (kind key : Int) (x : Count) : clG kind key x x = true := beq_iff_eq.2 (ord_R.self _)
theorem clG_sym {kind key : Int} {x y : Count} (h : clG kind key x y = true) : clG kind key y x = true := beq_iff_eq.2 (ord_R.sym (beq_iff_eq.1 h))
theorem clG_tr {kind key : Int} {x y z : Count} (h : clG kind key x y = true) (h2 : clG kind key y z = true) : clG kind key x z = true := beq_iff_eq.2 (ord_R.eq_tr (beq_iff_eq.1 h) (beq_iff_eq.1 h2))
theorem partsG_len (kind key n : Int) (l : List Count) : ∀ i, (partsG kind key n l i).length ≤ l.length * i
  | 0 => by simp [partsG]
  | i + 1 => by
    have h1 := partsG_len kind key n l i
    have h2 : (makeG kind key n (classG kind key l i)).1.length ≤ l.length := Nat.le_trans (makeG_len kind key n _) (List.length_filter_le _ _)
    rw [partsG, Nat.mul_succ]
    split
    · rw [List.length_append]; omega
    · omega
def seenG (kind key : Int) (l : List Count) (i : Nat) (d : List Bool) : Prop := d.length = l.length ∧ ∀ j, j < l.length → (d.getD j default = true ↔ ∃ k, k < i ∧ clG kind key (l.getD k default) (l.getD j default) = true)
def markG (kind key : Int) (l : List Count) (i s : Nat) (d e : List Bool) : Prop := e.length = l.length ∧ ∀ j, j < l.length → (e.getD j default = true ↔ d.getD j default = true ∨ (i ≤ j ∧ j < s ∧ clG kind key (l.getD i default) (l.getD j default) = true))
variable {kind key : Int} {l : List Count}
theorem seen_start (n : Nat) (h : n = l.length) : seenG kind key l 0 (List.replicate n false) := by
  refine ⟨by simp [h], fun j hj => ⟨fun h2 => ?_, fun ⟨k, hk, _⟩ => absurd hk (Nat.not_lt_zero _)⟩⟩
  rw [List.getD_eq_getElem?_getD, List.getElem?_replicate, if_pos (by omega)] at h2
  cases h2
theorem seen_skip {i : Nat} {d : List Bool} (h : seenG kind key l i d) (hi : i < l.length) (hd : d.getD i default = true) : seenG kind key l (i + 1) d ∧ firstG kind key l i = false := by
  obtain ⟨k, hk, hc⟩ := (h.2 i hi).1 hd
  refine ⟨⟨h.1, fun j hj => ?_⟩, ?_⟩
  · rw [h.2 j hj]
    refine ⟨fun ⟨q, hq, h1⟩ => ⟨q, by omega, h1⟩, fun ⟨q, hq, h1⟩ => ?_⟩
    rcases Nat.lt_or_ge q i with h2 | h2
    · exact ⟨q, h2, h1⟩
    · obtain rfl : q = i := by omega
      exact ⟨k, hk, clG_tr hc h1⟩
  · unfold firstG
    rw [List.all_eq_false]
    exact ⟨k, List.mem_range.2 hk, by rw [hc]; decide⟩
theorem seen_first {i : Nat} {d : List Bool} (h : seenG kind key l i d) (hi : i < l.length) (hd : d.getD i default = false) : firstG kind key l i = true ∧ (l.take i).filter (fun y => clG kind key (l.getD i default) y) = [] := by
  have hn : ∀ k, k < i → clG kind key (l.getD k default) (l.getD i default) = false := fun k hk => by
    cases hc : clG kind key (l.getD k default) (l.getD i default) with
    | false => rfl
    | true => rw [(h.2 i hi).2 ⟨k, hk, hc⟩] at hd; cases hd
  refine ⟨?_, ?_⟩
  · unfold firstG
    rw [List.all_eq_true]
    intro k hk
    rw [hn k (List.mem_range.1 hk)]; rfl
  · rw [List.filter_eq_nil_iff]
    intro y hy hc
    obtain ⟨k, hk, rfl⟩ := List.getElem_of_mem hy
    rw [List.length_take] at hk
    have h1 := hn k (by omega)
    rw [List.getElem_take] at hc
    rw [show l.getD k default = l[k]'(by omega) from by rw [List.getD_eq_getElem?_getD, List.getElem?_eq_getElem (by omega)]; rfl] at h1
    rw [clG_sym hc] at h1; cases h1
theorem mark_start (i : Nat) {d : List Bool} (h : d.length = l.length) : markG kind key l i i d d := ⟨h, fun j hj => ⟨.inl, fun h1 => h1.elim id fun ⟨h2, h3, _⟩ => by omega⟩⟩
theorem mark_yes {i s : Nat} {d e : List Bool} (h : markG kind key l i s d e) (hi : i ≤ s) (hs : s < l.length) (hc : clG kind key (l.getD i default) (l.getD s default) = true) : markG kind key l i (s + 1) d (e.set s true) := by
  refine ⟨by rw [List.length_set]; exact h.1, fun j hj => ?_⟩
  rw [List.getD_eq_getElem?_getD, List.getElem?_set]
  by_cases hj2 : s = j
  · subst hj2
    rw [if_pos rfl, if_pos (by have := h.1; omega)]
    exact ⟨fun _ => .inr ⟨hi, by omega, hc⟩, fun _ => rfl⟩
  · rw [if_neg hj2, ← List.getD_eq_getElem?_getD, h.2 j hj]
    constructor
    · rintro (h1 | ⟨h1, h2, h3⟩)
      · exact .inl h1
      · exact .inr ⟨h1, by omega, h3⟩
    · rintro (h1 | ⟨h1, h2, h3⟩)
      · exact .inl h1
      · exact .inr ⟨h1, by omega, h3⟩
theorem mark_no {i s : Nat} {d e : List Bool} (h : markG kind key l i s d e) (hc : clG kind key (l.getD i default) (l.getD s default) = false) : markG kind key l i (s + 1) d e := by
  refine ⟨h.1, fun j hj => ?_⟩
  rw [h.2 j hj]
  constructor
  · rintro (h1 | ⟨h1, h2, h3⟩)
    · exact .inl h1
    · exact .inr ⟨h1, by omega, h3⟩
  · rintro (h1 | ⟨h1, h2, h3⟩)
    · exact .inl h1
    · refine .inr ⟨h1, ?_, h3⟩
      rcases Nat.lt_or_ge j s with h4 | h4
      · exact h4
      · obtain rfl : j = s := by omega
        rw [hc] at h3; cases h3
theorem mark_seen {i : Nat} {d e : List Bool} (h : seenG kind key l i d) (hm : markG kind key l i l.length d e) : seenG kind key l (i + 1) e := by
  refine ⟨hm.1, fun j hj => ?_⟩
  rw [hm.2 j hj, h.2 j hj]
  constructor
  · rintro (⟨k, hk, hc⟩ | ⟨_, _, hc⟩)
    · exact ⟨k, by omega, hc⟩
    · exact ⟨i, by omega, hc⟩
  · rintro ⟨k, hk, hc⟩
    rcases Nat.lt_or_ge k i with h1 | h1
    · exact .inl ⟨k, h1, hc⟩
    · obtain rfl : k = i := by omega
      rcases Nat.lt_or_ge j k with h2 | h2
      · exact .inl ⟨j, h2, clG_refl _ _ _⟩
      · exact .inr ⟨h2, hj, hc⟩
theorem class_step (kind key : Int) (l : List Count) (i s : Nat) (h : s < l.length) : (l.take (s + 1)).filter (fun y => clG kind key (l.getD i default) y) = (l.take s).filter (fun y => clG kind key (l.getD i default) y) ++ (if clG kind key (l.getD i default) (l.getD s default) = true then [l.getD s default] else []) := by
  rw [take_cons' l s h, List.filter_append]
  split
  · rename_i hc; rw [List.filter_cons_of_pos hc, List.filter_nil]
  · rename_i hc; rw [List.filter_cons_of_neg hc, List.filter_nil]
end Go.V
namespace Go.V
open Go Go.RowKit Go.Proofs
set_option maxRecDepth 100000
set_option maxHeartbeats 4000000
set_option linter.unusedVariables false
set_option linter.unusedSimpArgs false
theorem setBo (ds : List Bool) (k : Nat) : (ds.map eB).set k [vb true] = (ds.set k true).map eB := by rw [List.map_set]; rfl
theorem repBo (n : Nat) : List.replicate n [vb false] = (List.replicate n false).map eB := by rw [List.map_replicate]; rfl
theorem keyG_len (kind key : Int) (r : List Val) : (keyG kind key r).1.length ≤ r.length := by
  unfold keyG; repeat' split
  all_goals simp
  all_goals omega
theorem class_le (kind key : Int) (l : List Count) (i : Nat) : (classG kind key l i).length ≤ l.length := List.length_filter_le _ _
theorem ref07_Less' (l : List Count) (Q : PV → Mem → Prop) (hl : l.length ≤ 1000000) (h : Q (.tup [.own 0, vi (lessC l).2]) [.row 59 ((lessC l).1.map eC)]) : Does Try.prog 27 [.sl (l.map eC), .val (.slice none 0 0)] [] 0 Q := ref07_Less l Q hl h
theorem law15_Parts (kind key n : Int) (l : List Count) (Q : PV → Mem → Prop) (H1 : muchC l = false → (makeG kind key n l).2 = 0 → ∀ i, i < l.length → (makeG kind key n (classG kind key l i)).2 = 0)
  (H2 : muchC l = false → (makeG kind key n l).2 = 0 → (lessC (partsG kind key n l l.length)).2 = 0 ∧ sameC (lessC (partsG kind key n l l.length)).1 (makeG kind key n l).1 = true)
  (H3 : muchC l = false → (makeG kind key n l).2 = 0 → (makeG 0 0 0 l).2 = 0 ∧ (makeG 0 0 0 (makeG 0 0 0 l).1).2 = 0 ∧ sameC (makeG 0 0 0 l).1 (makeG 0 0 0 (makeG 0 0 0 l).1).1 = true ∧ ∀ c ∈ (makeG 0 0 0 l).1, c.row.length ≤ 1000000)
  (H4 : muchC l = false → (makeG kind key n l).2 = 0 → kind ≠ 0 → 0 ≤ key ∧ (makeG 3 key 0 l).2 = 0 ∧ (makeG 5 key 1 l).2 = 0 ∧ sameC (makeG 3 key 0 l).1 (makeG 5 key 1 l).1 = true)
  (H5 : (makeG kind key n l).2 ≠ 0 → (makeG kind key n l).1.length = 0) (h : Q (vb true) []) : Does Try.prog 5 [vi kind, vi key, vi n, .sl (l.map eC)] [] 0 Q := by
  refine does_of mixed Try.func5 rfl (by kernel_rfl) no (slots [(0, [0, 1, 2, 3, 9, 11, 12, 13]), (2, [0, 1, 2, 3, 9, 11, 12, 13, 14, 16, 17])]) ?_
  simp only [Try.f5]
  have hml := makeG_len kind key n l
  repeat' (first
    | refine need_of (by have := muchC_no (by assumption); omega) ?_
    | simp -implicitDefEqProofs only [go_sem, eC, Nat.reduceAdd, Nat.reduceEqDiff, Nat.reduceLT, Nat.reduceBEq, Nat.reduceLeDiff, Nat.reduceSub, Int.reduceLE, Int.reduceNeg, Int.reduceEq, Int.reduceToNat]
    | with_reducible refine know_of fun _ => ?_
    | (with_reducible refine does_then (ref07_MuchCounts _ _ ?_))
    | (with_reducible refine does_then (law15_live _ ?_))
    | (with_reducible refine does_then (group_Make _ _ _ _ _ (by have := muchC_no (by assumption); omega) (fun c hc => by have := (muchC_no (by assumption)).2 c hc; omega) ?_))
    | (with_reducible refine does_then (law15_code _ _ ?_))
    | with_reducible refine ifD1 (by omega) ?_
    | with_reducible refine ifD0 (by omega) ?_
    | with_reducible refine ifE1 (by omega) ?_
    | with_reducible refine ifE0 (by omega) ?_
    | with_reducible refine ifN1 (by omega) ?_
    | with_reducible refine ifN0 (by omega) ?_
    | with_reducible refine ifD_of (fun _ => ?_) (fun _ => ?_)
    | with_reducible refine ifE_of (fun _ => ?_) (fun _ => ?_)
    | with_reducible refine ifN_of (fun _ => ?_) (fun _ => ?_)
    | with_reducible refine Go.V.if1 (by assumption) ?_
    | with_reducible refine Go.V.if0 (by assumption) ?_
    | with_reducible refine if_of (fun _ => ?_) (fun _ => ?_)
    | with_reducible refine s_of (idx_get _ _ _ (by omega) (by omega)) ?_
    | with_reducible refine s_of (idx_get _ _ _ (by omega) (by simp only [List.length_set, List.length_append, List.length_take, List.length_drop, List.length_reverse, List.length_singleton]; omega)) ?_
    | with_reducible refine s_of (map_get _ _ _ (by omega)) ?_
    | with_reducible refine s_of (map_get _ _ _ (by simp only [List.length_set]; omega)) ?_
    | with_reducible refine s_of (if_neg (by omega)) ?_
    | with_reducible refine s_of (if_pos (by omega)) ?_
    | with_reducible refine need_of (by omega) ?_
    | with_reducible refine nil_of (fun _ => ?_) ?_
    | with_reducible refine alt_of ?_ ?_
    | (with_reducible apply join_of; intro _ _)
    | with_reducible assumption)
  all_goals first | exact h | (exfalso; have := H5 (by assumption); omega) | skip
  have hmu := muchC_no (by assumption)
  have hrow : ∀ c ∈ l, c.row.length ≤ 1000000 := fun c hc => by have := hmu.2 c hc; omega
  replace H1 := H1 (by assumption) (by assumption)
  obtain ⟨H2, H2'⟩ := H2 (by assumption) (by assumption)
  obtain ⟨H3, H3a, H3b, H3c⟩ := H3 (by assumption) (by assumption)
  replace H4 := H4 (by assumption) (by assumption)
  clear H5
  generalize (makeG kind key n l).1 = a at *
  rw [Int.toNat_natCast, repBo]
  refine loop_then (loop_ind (σ := Nat × List Bool) (fun s => [(0, vi kind), (1, vi key), (2, vi n), (3, .sl (l.map eC)), (9, .own 0), (11, .own 1), (12, .own 2), (13, vi s.1)]) (fun s => [.row 59 (a.map eC), .row 59 ((partsG kind key n l s.1).map eC), .row 4 (s.2.map eB)]) (fun s => l.length - s.1) (fun s => s.1 ≤ l.length ∧ seenG kind key l s.1 s.2) ?_ (0, List.replicate l.length false) ⟨Nat.zero_le _, seen_start _ rfl⟩)
  rintro X ⟨i, ds⟩ ⟨hi, hs⟩ ih
  try dsimp only at ih ⊢
  dsimp only at hi hs
  have hdl := hs.1
  have hpl := partsG_len kind key n l i
  have hpm : l.length * i ≤ 60 * 60 := Nat.mul_le_mul hmu.1 (by omega)
  by_cases hil : i < l.length
  · repeat' (first
    | simp -implicitDefEqProofs only [go_sem, eC, eB, Int.toNat_natCast, Nat.reduceAdd, Nat.reduceEqDiff, Nat.reduceLT, Nat.reduceBEq, Nat.reduceLeDiff, Nat.reduceSub, Int.reduceLE, Int.reduceNeg, Int.reduceEq, Int.reduceToNat]
    | with_reducible refine know_of fun _ => ?_
    | (with_reducible refine does_then (group_Key _ _ _ _ (by have := hmu.2 _ (getD_mem' l i (by omega)); omega) ?_))
    | with_reducible refine ifD1 (by omega) ?_
    | with_reducible refine ifD0 (by omega) ?_
    | with_reducible refine ifE1 (by omega) ?_
    | with_reducible refine ifE0 (by omega) ?_
    | with_reducible refine ifN1 (by omega) ?_
    | with_reducible refine ifN0 (by omega) ?_
    | with_reducible refine ifD_of (fun _ => ?_) (fun _ => ?_)
    | with_reducible refine ifE_of (fun _ => ?_) (fun _ => ?_)
    | with_reducible refine ifN_of (fun _ => ?_) (fun _ => ?_)
    | with_reducible refine Go.V.if1 (by assumption) ?_
    | with_reducible refine Go.V.if0 (by assumption) ?_
    | with_reducible refine if_of (fun _ => ?_) (fun _ => ?_)
    | with_reducible refine s_of (idx_get _ _ _ (by omega) (by omega)) ?_
    | with_reducible refine s_of (idx_get _ _ _ (by omega) (by simp only [List.length_set, List.length_append, List.length_take, List.length_drop, List.length_reverse, List.length_singleton]; omega)) ?_
    | with_reducible refine s_of (map_get _ _ _ (by omega)) ?_
    | with_reducible refine s_of (map_get _ _ _ (by simp only [List.length_set]; omega)) ?_
    | with_reducible refine s_of (if_neg (by omega)) ?_
    | with_reducible refine s_of (if_pos (by omega)) ?_
    | with_reducible refine need_of (by omega) ?_
    | with_reducible refine nil_of (fun _ => ?_) ?_
    | with_reducible refine alt_of ?_ ?_
    | (with_reducible apply join_of; intro _ _)
    | with_reducible assumption)
    · obtain ⟨h1, h2⟩ := seen_skip hs hil (by assumption)
      rw [wnat i (by omega)]
      have ih1 := ih (i + 1, ds) (by dsimp only; omega) ⟨by dsimp only; omega, h1⟩
      dsimp only at ih1
      rw [partsG, if_neg (by rw [h2]; exact Bool.false_ne_true)] at ih1
      exact ih1
    · obtain ⟨h1, h2⟩ := seen_first hs hil (by assumption)
      have ih0 := ih
      clear ih
      have hk0 : (keyG kind key (l.getD i default).row).1.length ≤ 1000000 := by
        have := hrow _ (getD_mem' l i (by omega))
        have := keyG_len kind key (l.getD i default).row
        omega
      have hcl := class_le kind key l i
      have hmc := makeG_len kind key n (classG kind key l i)
      refine loop_then (loop_ind (σ := Nat × List Bool × List Count) (fun s => [(0, vi kind), (1, vi key), (2, vi n), (3, .sl (l.map eC)), (9, .own 0), (11, .own 1), (12, .own 2), (13, vi i), (14, .own 3), (16, .own 4), (17, vi s.1)]) (fun s => [.row 59 (a.map eC), .row 59 ((partsG kind key n l i).map eC), .row 4 (s.2.1.map eB), .row 47 ((keyG kind key (l.getD i default).row).1.map eV), .row 59 (s.2.2.map eC)]) (fun s => l.length - s.1) (fun s => i ≤ s.1 ∧ s.1 ≤ l.length ∧ markG kind key l i s.1 ds s.2.1 ∧ s.2.2 = (l.take s.1).filter (fun y => clG kind key (l.getD i default) y)) ?_ (i, ds, []) ⟨Nat.le_refl _, hi, mark_start i hdl, h2.symm⟩)
      rintro X ⟨j, es, sm⟩ ⟨hij, hj, hm, hsm⟩ ih
      try dsimp only at ih ⊢
      dsimp only at hij hj hm hsm
      have hel := hm.1
      have hfl : sm.length ≤ 60 := by rw [hsm]; exact Nat.le_trans (List.length_filter_le _ _) (by rw [List.length_take]; omega)
      by_cases hjl : j < l.length
      · repeat' (first
        | rw [setBo]
        | rw [appC]
        | simp -implicitDefEqProofs only [go_sem, eC, eB, Int.toNat_natCast, Nat.reduceAdd, Nat.reduceEqDiff, Nat.reduceLT, Nat.reduceBEq, Nat.reduceLeDiff, Nat.reduceSub, Int.reduceLE, Int.reduceNeg, Int.reduceEq, Int.reduceToNat]
        | with_reducible refine know_of fun _ => ?_
        | (with_reducible refine does_then (group_Key _ _ _ _ (by have := hmu.2 _ (getD_mem' l j (by omega)); omega) ?_))
        | (with_reducible refine does_then (ref03_Same _ _ _ ?_))
        | with_reducible refine ifD1 (by omega) ?_
        | with_reducible refine ifD0 (by omega) ?_
        | with_reducible refine ifE1 (by omega) ?_
        | with_reducible refine ifE0 (by omega) ?_
        | with_reducible refine ifN1 (by omega) ?_
        | with_reducible refine ifN0 (by omega) ?_
        | with_reducible refine ifD_of (fun _ => ?_) (fun _ => ?_)
        | with_reducible refine ifE_of (fun _ => ?_) (fun _ => ?_)
        | with_reducible refine ifN_of (fun _ => ?_) (fun _ => ?_)
        | with_reducible refine Go.V.if1 (by assumption) ?_
        | with_reducible refine Go.V.if0 (by assumption) ?_
        | with_reducible refine if_of (fun _ => ?_) (fun _ => ?_)
        | with_reducible refine s_of (idx_get _ _ _ (by omega) (by omega)) ?_
        | with_reducible refine s_of (idx_get _ _ _ (by omega) (by simp only [List.length_set, List.length_append, List.length_take, List.length_drop, List.length_reverse, List.length_singleton]; omega)) ?_
        | with_reducible refine s_of (map_get _ _ _ (by omega)) ?_
        | with_reducible refine s_of (map_get _ _ _ (by simp only [List.length_set]; omega)) ?_
        | with_reducible refine s_of (if_neg (by omega)) ?_
        | with_reducible refine s_of (if_pos (by omega)) ?_
        | with_reducible refine need_of (by omega) ?_
        | with_reducible refine nil_of (fun _ => ?_) ?_
        | with_reducible refine alt_of ?_ ?_
        | (with_reducible apply join_of; intro _ _)
        | with_reducible assumption)
        · rename_i hc _
          have hc1 : clG kind key (l.getD i default) (l.getD j default) = true := beq_iff_eq.2 hc
          rw [wnat j (by omega)]
          exact ih (j + 1, es.set j true, _) (by dsimp only; omega) ⟨by dsimp only; omega, by dsimp only; omega, mark_yes hm hij hjl hc1, by dsimp only; rw [class_step kind key l i j hjl, if_pos hc1, hsm]⟩
        · rename_i hc _
          have hc1 : clG kind key (l.getD i default) (l.getD j default) = false := beq_eq_false_iff_ne.2 hc
          rw [wnat j (by omega)]
          exact ih (j + 1, es, _) (by dsimp only; omega) ⟨by dsimp only; omega, by dsimp only; omega, mark_no hm hc1, by dsimp only; rw [class_step kind key l i j hjl, if_neg (by rw [hc1]; exact Bool.false_ne_true), hsm, List.append_nil]⟩
      · obtain rfl : j = l.length := by omega
        rw [List.take_length] at hsm
        obtain rfl : sm = classG kind key l i := hsm
        repeat' (first
        | rw [appGG]
        | simp -implicitDefEqProofs only [go_sem, eC, Int.toNat_natCast, Nat.reduceAdd, Nat.reduceEqDiff, Nat.reduceLT, Nat.reduceBEq, Nat.reduceLeDiff, Nat.reduceSub, Int.reduceLE, Int.reduceNeg, Int.reduceEq, Int.reduceToNat]
        | with_reducible refine know_of fun _ => ?_
        | (with_reducible refine does_then (group_Make kind key n (classG kind key l i) _ (by omega) (fun c hc => hrow c (List.mem_filter.1 hc).1) ?_))
        | (with_reducible refine does_then (law15_code _ _ ?_))
        | with_reducible refine ifD1 (by omega) ?_
        | with_reducible refine ifD0 (by omega) ?_
        | with_reducible refine ifE1 (by omega) ?_
        | with_reducible refine ifE0 (by omega) ?_
        | with_reducible refine ifN1 (by omega) ?_
        | with_reducible refine ifN0 (by omega) ?_
        | with_reducible refine ifD_of (fun _ => ?_) (fun _ => ?_)
        | with_reducible refine ifE_of (fun _ => ?_) (fun _ => ?_)
        | with_reducible refine ifN_of (fun _ => ?_) (fun _ => ?_)
        | with_reducible refine Go.V.if1 (by assumption) ?_
        | with_reducible refine Go.V.if0 (by assumption) ?_
        | with_reducible refine if_of (fun _ => ?_) (fun _ => ?_)
        | with_reducible refine s_of (idx_get _ _ _ (by omega) (by omega)) ?_
        | with_reducible refine s_of (idx_get _ _ _ (by omega) (by simp only [List.length_set, List.length_append, List.length_take, List.length_drop, List.length_reverse, List.length_singleton]; omega)) ?_
        | with_reducible refine s_of (map_get _ _ _ (by omega)) ?_
        | with_reducible refine s_of (map_get _ _ _ (by simp only [List.length_set]; omega)) ?_
        | with_reducible refine s_of (if_neg (by omega)) ?_
        | with_reducible refine s_of (if_pos (by omega)) ?_
        | with_reducible refine need_of (by omega) ?_
        | with_reducible refine nil_of (fun _ => ?_) ?_
        | with_reducible refine alt_of ?_ ?_
        | (with_reducible apply join_of; intro _ _)
        | with_reducible assumption)
        · exact absurd (H1 i hil) (by assumption)
        · rw [wnat i (by omega)]
          have ih1 := ih0 (i + 1, es) (by dsimp only; omega) ⟨by dsimp only; omega, mark_seen hs hm⟩
          dsimp only at ih1
          rw [partsG, if_pos h1] at ih1
          exact ih1

  · obtain rfl : i = l.length := by omega
    repeat' (first
    | rw [show w64 ((makeG 0 0 0 l).2 + (makeG 0 0 0 (makeG 0 0 0 l).1).2) = 0 by rw [H3, H3a]; exact w64_of _ (by omega)]
    | simp -implicitDefEqProofs only [go_sem, eC, Int.toNat_natCast, Nat.reduceAdd, Nat.reduceEqDiff, Nat.reduceLT, Nat.reduceBEq, Nat.reduceLeDiff, Nat.reduceSub, Int.reduceLE, Int.reduceNeg, Int.reduceEq, Int.reduceToNat]
    | with_reducible refine know_of fun _ => ?_
    | (with_reducible refine does_then (ref07_Less' _ _ (by omega) ?_))
    | (with_reducible refine does_then (group_Make 0 0 0 l _ (by omega) hrow ?_))
    | (with_reducible refine does_then (group_Make 0 0 0 (makeG 0 0 0 l).1 _ (by have := makeG_len 0 0 0 l; omega) H3c ?_))
    | (with_reducible refine does_then (law15_code _ _ ?_))
    | (with_reducible refine does_then (ref07_SameCounts _ _ _ ?_))
    | (with_reducible refine does_then (law15_live _ ?_))
    | with_reducible refine ifD1 (by omega) ?_
    | with_reducible refine ifD0 (by omega) ?_
    | with_reducible refine ifE1 (by omega) ?_
    | with_reducible refine ifE0 (by omega) ?_
    | with_reducible refine ifN1 (by omega) ?_
    | with_reducible refine ifN0 (by omega) ?_
    | with_reducible refine ifD_of (fun _ => ?_) (fun _ => ?_)
    | with_reducible refine ifE_of (fun _ => ?_) (fun _ => ?_)
    | with_reducible refine ifN_of (fun _ => ?_) (fun _ => ?_)
    | with_reducible refine Go.V.if1 (by assumption) ?_
    | with_reducible refine Go.V.if0 (by assumption) ?_
    | with_reducible refine if_of (fun _ => ?_) (fun _ => ?_)
    | with_reducible refine s_of (idx_get _ _ _ (by omega) (by omega)) ?_
    | with_reducible refine s_of (idx_get _ _ _ (by omega) (by simp only [List.length_set, List.length_append, List.length_take, List.length_drop, List.length_reverse, List.length_singleton]; omega)) ?_
    | with_reducible refine s_of (map_get _ _ _ (by omega)) ?_
    | with_reducible refine s_of (map_get _ _ _ (by simp only [List.length_set]; omega)) ?_
    | with_reducible refine s_of (if_neg (by omega)) ?_
    | with_reducible refine s_of (if_pos (by omega)) ?_
    | with_reducible refine need_of (by omega) ?_
    | with_reducible refine nil_of (fun _ => ?_) ?_
    | with_reducible refine alt_of ?_ ?_
    | (with_reducible apply join_of; intro _ _)
    | with_reducible assumption)
    all_goals first | exact h | skip
    obtain ⟨_, H4a, H4b, H4c⟩ := H4 (by assumption)
    repeat' (first
    | rw [show w64 ((makeG 3 key 0 l).2 + (makeG 5 key 1 l).2) = 0 by rw [H4a, H4b]; exact w64_of _ (by omega)]
    | simp -implicitDefEqProofs only [go_sem, eC, Int.toNat_natCast, Nat.reduceAdd, Nat.reduceEqDiff, Nat.reduceLT, Nat.reduceBEq, Nat.reduceLeDiff, Nat.reduceSub, Int.reduceLE, Int.reduceNeg, Int.reduceEq, Int.reduceToNat]
    | with_reducible refine know_of fun _ => ?_
    | (with_reducible refine does_then (group_Make 3 key 0 l _ (by omega) hrow ?_))
    | (with_reducible refine does_then (group_Make 5 key 1 l _ (by omega) hrow ?_))
    | (with_reducible refine does_then (law15_code _ _ ?_))
    | (with_reducible refine does_then (ref07_SameCounts _ _ _ ?_))
    | (with_reducible refine does_then (law15_live _ ?_))
    | with_reducible refine ifD1 (by omega) ?_
    | with_reducible refine ifD0 (by omega) ?_
    | with_reducible refine ifE1 (by omega) ?_
    | with_reducible refine ifE0 (by omega) ?_
    | with_reducible refine ifN1 (by omega) ?_
    | with_reducible refine ifN0 (by omega) ?_
    | with_reducible refine ifD_of (fun _ => ?_) (fun _ => ?_)
    | with_reducible refine ifE_of (fun _ => ?_) (fun _ => ?_)
    | with_reducible refine ifN_of (fun _ => ?_) (fun _ => ?_)
    | with_reducible refine Go.V.if1 (by assumption) ?_
    | with_reducible refine Go.V.if0 (by assumption) ?_
    | with_reducible refine if_of (fun _ => ?_) (fun _ => ?_)
    | with_reducible refine s_of (idx_get _ _ _ (by omega) (by omega)) ?_
    | with_reducible refine s_of (idx_get _ _ _ (by omega) (by simp only [List.length_set, List.length_append, List.length_take, List.length_drop, List.length_reverse, List.length_singleton]; omega)) ?_
    | with_reducible refine s_of (map_get _ _ _ (by omega)) ?_
    | with_reducible refine s_of (map_get _ _ _ (by simp only [List.length_set]; omega)) ?_
    | with_reducible refine s_of (if_neg (by omega)) ?_
    | with_reducible refine s_of (if_pos (by omega)) ?_
    | with_reducible refine need_of (by omega) ?_
    | with_reducible refine nil_of (fun _ => ?_) ?_
    | with_reducible refine alt_of ?_ ?_
    | (with_reducible apply join_of; intro _ _)
    | with_reducible assumption)
    all_goals exact h
end Go.V
