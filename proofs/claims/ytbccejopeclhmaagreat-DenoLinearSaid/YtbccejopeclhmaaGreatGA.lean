import Derived.Test.YtbccejopeclhmaaGreatSB
import Derived.Test.YtbccejopeclhmaaGreatLA
import Derived.Test.YtbccejopeclhmaaGreatLG2
import Derived.Test.YtbccejopeclhmaaGreatL9
namespace Go.V
open Go Go.RowKit Go.Proofs
set_option maxRecDepth 100000
set_option maxHeartbeats 4000000
set_option linter.unusedVariables false
set_option linter.unusedSimpArgs false
def sumW : List Int → Int → Int × Int
  | [], n => (n, 0)
  | x :: l, n => if (over (n + x)).2 ≠ 0 then (0, (over (n + x)).2) else sumW l (over (n + x)).1
def dotW : List Int → List Int → Int → Int × Int
  | x :: l, y :: k, n => if (over (x * y)).2 ≠ 0 then (0, (over (x * y)).2) else if (over (n + (over (x * y)).1)).2 ≠ 0 then (0, (over (n + (over (x * y)).1)).2) else dotW l k (over (n + (over (x * y)).1)).1
  | _, _, n => (n, 0)
def knownG (kind n : Int) : Int := if kind < 0 ∨ 6 ≤ kind then 8 else if kind = 5 ∧ (n < 1 ∨ 1000 < n) then 1 else 0
def checkG (kind key n : Int) (kinds : List Int) : List Int × Int :=
  if kind < 0 ∨ 6 ≤ kind then ([], 8)
  else if kind ≠ 0 ∧ (key < 0 ∨ (kinds.length : Int) < key) then ([], 9)
  else if kind = 2 ∧ (n < 0 ∨ (kinds.length : Int) ≤ n) then ([], 9)
  else if kind = 2 ∧ kinds.getD n.toNat default ≠ 0 then ([], 80)
  else if kind = 1 ∨ kind = 2 then (if 16 ≤ key then ([], 3) else (kinds.take key.toNat ++ [0], 0))
  else if knownG kind n ≠ 0 then ([], knownG kind n) else (kinds, 0)
def idxF {α : Type} (p : α → Bool) : List α → Int → Int
  | [], _ => -1
  | x :: l, i => if p x = true then i else idxF p l (i + 1)
theorem getD_mem' {α : Type} [Inhabited α] (l : List α) (i : Nat) (h : i < l.length) : l.getD i default ∈ l := by
  rw [List.getD_eq_getElem?_getD, List.getElem?_eq_getElem h]; exact List.getElem_mem h
theorem take_cons' {α : Type} [Inhabited α] (l : List α) (i : Nat) (h : i < l.length) : l.take (i + 1) = l.take i ++ [l.getD i default] := by
  rw [List.getD_eq_getElem?_getD, List.getElem?_eq_getElem h, List.take_succ_eq_append_getElem h]; rfl
theorem weigh_sum (l : List Int) (Q : PV → Mem → Prop)  (h : Q (.tup [vi (sumW l 0).1, vi (sumW l 0).2]) []) : Does Tryz.prog 219 [.sl (l.map eI)] [] 0 Q := by
  refine does_of mixed Tryz.func219 rfl (by kernel_rfl) no (slots [(0, [4, 8, 9, 10])]) ?_
  simp only [Tryz.f219]
  repeat' (first
    | simp -implicitDefEqProofs only [go_sem, eI, Nat.reduceAdd, Nat.reduceEqDiff, Nat.reduceLT, Nat.reduceBEq, Nat.reduceLeDiff, Nat.reduceSub, Int.reduceLE, Int.reduceNeg, Int.reduceEq, Int.reduceToNat]
    | with_reducible refine know_of fun _ => ?_
    | with_reducible refine ifD1 (by omega) ?_
    | with_reducible refine ifD0 (by omega) ?_
    | with_reducible refine ifE1 (by omega) ?_
    | with_reducible refine ifE0 (by omega) ?_
    | with_reducible refine ifN1 (by omega) ?_
    | with_reducible refine ifN0 (by omega) ?_
    | with_reducible refine ifD_of (fun _ => ?_) (fun _ => ?_)
    | with_reducible refine ifE_of (fun _ => ?_) (fun _ => ?_)
    | with_reducible refine ifN_of (fun _ => ?_) (fun _ => ?_)
    | with_reducible refine Go.V.if1 (by assumption) ?_
    | with_reducible refine Go.V.if0 (by assumption) ?_
    | with_reducible refine if_of (fun _ => ?_) (fun _ => ?_)
    | with_reducible refine s_of (idx_get _ _ _ (by omega) (by omega)) ?_
    | with_reducible refine s_of (idx_get _ _ _ (by omega) (by simp only [List.length_set, List.length_append, List.length_take, List.length_drop, List.length_reverse, List.length_singleton]; omega)) ?_
    | with_reducible refine s_of (map_get _ _ _ (by omega)) ?_
    | with_reducible refine s_of (map_get _ _ _ (by simp only [List.length_set]; omega)) ?_
    | with_reducible refine s_of (if_neg (by omega)) ?_
    | with_reducible refine s_of (if_pos (by omega)) ?_
    | with_reducible refine need_of (by omega) ?_
    | with_reducible refine nil_of (fun _ => ?_) ?_
    | with_reducible refine alt_of ?_ ?_
    | (with_reducible apply join_of; intro _ _)
    | with_reducible assumption)
  refine loop_then (loop_ind (σ := Nat × Int) (fun s => [(4, vi s.2), (8, .sl (l.map eI)), (9, vi l.length), (10, vi s.1)]) (fun s => []) (fun s => l.length - s.1) (fun s => s.1 ≤ l.length ∧ sumW (l.drop s.1) s.2 = sumW l 0) ?_ (0, 0) ⟨Nat.zero_le _, rfl⟩)
  rintro X ⟨i, n⟩ ⟨hi, hs⟩ ih
  try dsimp only at ih ⊢
  dsimp only at hi hs
  repeat' (first
    | simp -implicitDefEqProofs only [go_sem, eI, Int.toNat_natCast, Nat.reduceAdd, Nat.reduceEqDiff, Nat.reduceLT, Nat.reduceBEq, Nat.reduceLeDiff, Nat.reduceSub, Int.reduceLE, Int.reduceNeg, Int.reduceEq, Int.reduceToNat]
    | with_reducible refine know_of fun _ => ?_
    | (with_reducible refine does_then (weigh_Add _ _ _ ?_))
    | with_reducible refine ifD1 (by omega) ?_
    | with_reducible refine ifD0 (by omega) ?_
    | with_reducible refine ifE1 (by omega) ?_
    | with_reducible refine ifE0 (by omega) ?_
    | with_reducible refine ifN1 (by omega) ?_
    | with_reducible refine ifN0 (by omega) ?_
    | with_reducible refine ifD_of (fun _ => ?_) (fun _ => ?_)
    | with_reducible refine ifE_of (fun _ => ?_) (fun _ => ?_)
    | with_reducible refine ifN_of (fun _ => ?_) (fun _ => ?_)
    | with_reducible refine Go.V.if1 (by assumption) ?_
    | with_reducible refine Go.V.if0 (by assumption) ?_
    | with_reducible refine if_of (fun _ => ?_) (fun _ => ?_)
    | with_reducible refine s_of (idx_get _ _ _ (by omega) (by omega)) ?_
    | with_reducible refine s_of (idx_get _ _ _ (by omega) (by simp only [List.length_set, List.length_append, List.length_take, List.length_drop, List.length_reverse, List.length_singleton]; omega)) ?_
    | with_reducible refine s_of (map_get _ _ _ (by omega)) ?_
    | with_reducible refine s_of (map_get _ _ _ (by simp only [List.length_set]; omega)) ?_
    | with_reducible refine s_of (if_neg (by omega)) ?_
    | with_reducible refine s_of (if_pos (by omega)) ?_
    | with_reducible refine need_of (by omega) ?_
    | with_reducible refine nil_of (fun _ => ?_) ?_
    | with_reducible refine alt_of ?_ ?_
    | (with_reducible apply join_of; intro _ _)
    | with_reducible assumption)
  · rename_i h0 _
    rw [drop_getD l i (by omega), sumW, if_pos (by omega)] at hs
    rw [← hs] at h; exact h
  · rename_i h0 _
    rw [drop_getD l i (by omega), sumW, if_neg (by omega)] at hs
    rw [wnat i (by omega)]
    exact ih (i + 1, _) (by dsimp only; omega) ⟨by dsimp only; omega, hs⟩
  · rw [List.drop_eq_nil_of_le (by omega)] at hs
    rw [← hs] at h; exact h
theorem weigh_Sum (l : List Int) (Q : PV → Mem → Prop)  (h : Q (.tup [vi (sumW l 0).1, vi (sumW l 0).2]) []) : Does Tryz.prog 193 [.sl (l.map eI)] [] 0 Q := by
  refine does_of mixed Tryz.func193 rfl (by kernel_rfl) no (slots []) ?_
  simp only [Tryz.f193]
  repeat' (first
    | simp -implicitDefEqProofs only [go_sem, Nat.reduceAdd, Nat.reduceEqDiff, Nat.reduceLT, Nat.reduceBEq, Nat.reduceLeDiff, Nat.reduceSub, Int.reduceLE, Int.reduceNeg, Int.reduceEq, Int.reduceToNat]
    | with_reducible refine know_of fun _ => ?_
    | (with_reducible refine does_then (weigh_sum _ _ ?_))
    | with_reducible refine ifD1 (by omega) ?_
    | with_reducible refine ifD0 (by omega) ?_
    | with_reducible refine ifE1 (by omega) ?_
    | with_reducible refine ifE0 (by omega) ?_
    | with_reducible refine ifN1 (by omega) ?_
    | with_reducible refine ifN0 (by omega) ?_
    | with_reducible refine ifD_of (fun _ => ?_) (fun _ => ?_)
    | with_reducible refine ifE_of (fun _ => ?_) (fun _ => ?_)
    | with_reducible refine ifN_of (fun _ => ?_) (fun _ => ?_)
    | with_reducible refine Go.V.if1 (by assumption) ?_
    | with_reducible refine Go.V.if0 (by assumption) ?_
    | with_reducible refine if_of (fun _ => ?_) (fun _ => ?_)
    | with_reducible refine s_of (idx_get _ _ _ (by omega) (by omega)) ?_
    | with_reducible refine s_of (idx_get _ _ _ (by omega) (by simp only [List.length_set, List.length_append, List.length_take, List.length_drop, List.length_reverse, List.length_singleton]; omega)) ?_
    | with_reducible refine s_of (map_get _ _ _ (by omega)) ?_
    | with_reducible refine s_of (map_get _ _ _ (by simp only [List.length_set]; omega)) ?_
    | with_reducible refine s_of (if_neg (by omega)) ?_
    | with_reducible refine s_of (if_pos (by omega)) ?_
    | with_reducible refine need_of (by omega) ?_
    | with_reducible refine nil_of (fun _ => ?_) ?_
    | with_reducible refine alt_of ?_ ?_
    | (with_reducible apply join_of; intro _ _)
    | with_reducible assumption)
  all_goals first | exact h | simpa using h
theorem weigh_Dot (l k : List Int) (Q : PV → Mem → Prop) (hlk : l.length = k.length) (h : Q (.tup [vi (dotW l k 0).1, vi (dotW l k 0).2]) []) : Does Tryz.prog 194 [.sl (l.map eI), .sl (k.map eI)] [] 0 Q := by
  refine does_of mixed Tryz.func194 rfl (by kernel_rfl) no (slots [(0, [1, 6, 16, 17, 18])]) ?_
  simp only [Tryz.f194]
  repeat' (first
    | simp -implicitDefEqProofs only [go_sem, eI, Nat.reduceAdd, Nat.reduceEqDiff, Nat.reduceLT, Nat.reduceBEq, Nat.reduceLeDiff, Nat.reduceSub, Int.reduceLE, Int.reduceNeg, Int.reduceEq, Int.reduceToNat]
    | with_reducible refine know_of fun _ => ?_
    | with_reducible refine ifD1 (by omega) ?_
    | with_reducible refine ifD0 (by omega) ?_
    | with_reducible refine ifE1 (by omega) ?_
    | with_reducible refine ifE0 (by omega) ?_
    | with_reducible refine ifN1 (by omega) ?_
    | with_reducible refine ifN0 (by omega) ?_
    | with_reducible refine ifD_of (fun _ => ?_) (fun _ => ?_)
    | with_reducible refine ifE_of (fun _ => ?_) (fun _ => ?_)
    | with_reducible refine ifN_of (fun _ => ?_) (fun _ => ?_)
    | with_reducible refine Go.V.if1 (by assumption) ?_
    | with_reducible refine Go.V.if0 (by assumption) ?_
    | with_reducible refine if_of (fun _ => ?_) (fun _ => ?_)
    | with_reducible refine s_of (idx_get _ _ _ (by omega) (by omega)) ?_
    | with_reducible refine s_of (idx_get _ _ _ (by omega) (by simp only [List.length_set, List.length_append, List.length_take, List.length_drop, List.length_reverse, List.length_singleton]; omega)) ?_
    | with_reducible refine s_of (map_get _ _ _ (by omega)) ?_
    | with_reducible refine s_of (map_get _ _ _ (by simp only [List.length_set]; omega)) ?_
    | with_reducible refine s_of (if_neg (by omega)) ?_
    | with_reducible refine s_of (if_pos (by omega)) ?_
    | with_reducible refine need_of (by omega) ?_
    | with_reducible refine nil_of (fun _ => ?_) ?_
    | with_reducible refine alt_of ?_ ?_
    | (with_reducible apply join_of; intro _ _)
    | with_reducible assumption)
  refine loop_then (loop_ind (σ := Nat × Int) (fun s => [(1, .sl (k.map eI)), (6, vi s.2), (16, .sl (l.map eI)), (17, vi l.length), (18, vi s.1)]) (fun s => []) (fun s => l.length - s.1) (fun s => s.1 ≤ l.length ∧ dotW (l.drop s.1) (k.drop s.1) s.2 = dotW l k 0) ?_ (0, 0) ⟨Nat.zero_le _, rfl⟩)
  rintro X ⟨i, n⟩ ⟨hi, hs⟩ ih
  try dsimp only at ih ⊢
  dsimp only at hi hs
  repeat' (first
    | simp -implicitDefEqProofs only [go_sem, eI, Int.toNat_natCast, Nat.reduceAdd, Nat.reduceEqDiff, Nat.reduceLT, Nat.reduceBEq, Nat.reduceLeDiff, Nat.reduceSub, Int.reduceLE, Int.reduceNeg, Int.reduceEq, Int.reduceToNat]
    | with_reducible refine know_of fun _ => ?_
    | (with_reducible refine does_then (weigh_Mul _ _ _ ?_))
    | (with_reducible refine does_then (weigh_Add _ _ _ ?_))
    | with_reducible refine ifD1 (by omega) ?_
    | with_reducible refine ifD0 (by omega) ?_
    | with_reducible refine ifE1 (by omega) ?_
    | with_reducible refine ifE0 (by omega) ?_
    | with_reducible refine ifN1 (by omega) ?_
    | with_reducible refine ifN0 (by omega) ?_
    | with_reducible refine ifD_of (fun _ => ?_) (fun _ => ?_)
    | with_reducible refine ifE_of (fun _ => ?_) (fun _ => ?_)
    | with_reducible refine ifN_of (fun _ => ?_) (fun _ => ?_)
    | with_reducible refine Go.V.if1 (by assumption) ?_
    | with_reducible refine Go.V.if0 (by assumption) ?_
    | with_reducible refine if_of (fun _ => ?_) (fun _ => ?_)
    | with_reducible refine s_of (idx_get _ _ _ (by omega) (by omega)) ?_
    | with_reducible refine s_of (idx_get _ _ _ (by omega) (by simp only [List.length_set, List.length_append, List.length_take, List.length_drop, List.length_reverse, List.length_singleton]; omega)) ?_
    | with_reducible refine s_of (map_get _ _ _ (by omega)) ?_
    | with_reducible refine s_of (map_get _ _ _ (by simp only [List.length_set]; omega)) ?_
    | with_reducible refine s_of (if_neg (by omega)) ?_
    | with_reducible refine s_of (if_pos (by omega)) ?_
    | with_reducible refine need_of (by omega) ?_
    | with_reducible refine nil_of (fun _ => ?_) ?_
    | with_reducible refine alt_of ?_ ?_
    | (with_reducible apply join_of; intro _ _)
    | with_reducible assumption)
  · rename_i h1
    rw [drop_getD l i (by omega), drop_getD k i (by omega), dotW, if_pos h1] at hs
    rw [← hs] at h; exact h
  · rename_i h1 h2
    rw [drop_getD l i (by omega), drop_getD k i (by omega), dotW, if_neg (by omega), if_pos h2] at hs
    rw [← hs] at h; exact h
  · rename_i h1 h2 _
    rw [drop_getD l i (by omega), drop_getD k i (by omega), dotW, if_neg (by omega), if_neg (by omega)] at hs
    rw [wnat i (by omega)]
    exact ih (i + 1, _) (by dsimp only; omega) ⟨by dsimp only; omega, hs⟩
  · rw [List.drop_eq_nil_of_le (by omega), List.drop_eq_nil_of_le (by omega)] at hs
    rw [← hs] at h; exact h
theorem group_known (k n : Int) (Q : PV → Mem → Prop)  (h : Q (vi (knownG k n)) []) : Does Tryz.prog 95 [vi k, vi n] [] 0 Q := by
  refine does_of mixed Tryz.func95 rfl (by kernel_rfl) no (slots []) ?_
  simp only [Tryz.f95]
  repeat' (first
    | simp -implicitDefEqProofs only [go_sem, Nat.reduceAdd, Nat.reduceEqDiff, Nat.reduceLT, Nat.reduceBEq, Nat.reduceLeDiff, Nat.reduceSub, Int.reduceLE, Int.reduceNeg, Int.reduceEq, Int.reduceToNat]
    | with_reducible refine know_of fun _ => ?_
    | with_reducible refine ifD1 (by omega) ?_
    | with_reducible refine ifD0 (by omega) ?_
    | with_reducible refine ifE1 (by omega) ?_
    | with_reducible refine ifE0 (by omega) ?_
    | with_reducible refine ifN1 (by omega) ?_
    | with_reducible refine ifN0 (by omega) ?_
    | with_reducible refine ifD_of (fun _ => ?_) (fun _ => ?_)
    | with_reducible refine ifE_of (fun _ => ?_) (fun _ => ?_)
    | with_reducible refine ifN_of (fun _ => ?_) (fun _ => ?_)
    | with_reducible refine Go.V.if1 (by assumption) ?_
    | with_reducible refine Go.V.if0 (by assumption) ?_
    | with_reducible refine if_of (fun _ => ?_) (fun _ => ?_)
    | with_reducible refine s_of (idx_get _ _ _ (by omega) (by omega)) ?_
    | with_reducible refine s_of (idx_get _ _ _ (by omega) (by simp only [List.length_set, List.length_append, List.length_take, List.length_drop, List.length_reverse, List.length_singleton]; omega)) ?_
    | with_reducible refine s_of (map_get _ _ _ (by omega)) ?_
    | with_reducible refine s_of (map_get _ _ _ (by simp only [List.length_set]; omega)) ?_
    | with_reducible refine s_of (if_neg (by omega)) ?_
    | with_reducible refine s_of (if_pos (by omega)) ?_
    | with_reducible refine need_of (by omega) ?_
    | with_reducible refine nil_of (fun _ => ?_) ?_
    | with_reducible refine alt_of ?_ ?_
    | (with_reducible apply join_of; intro _ _)
    | with_reducible assumption)
  all_goals first | exact h | (simp only [knownG] at h; (repeat' split at h) <;> first | exact h | contradiction | (exfalso; omega) | (exfalso; simp_all; done) | (simpa [*, -h] using h))
theorem group_Check (kind key n : Int) (kinds : List Int) (Q : PV → Mem → Prop) (hl : kinds.length ≤ 1000000) (h : Q (.tup [.own 0, vi (checkG kind key n kinds).2]) [.row 3 ((checkG kind key n kinds).1.map eI)]) : Does Tryz.prog 176 [vi kind, vi key, vi n, .sl (kinds.map eI)] [] 0 Q := by
  refine does_of mixed Tryz.func176 rfl (by kernel_rfl) no (slots []) ?_
  simp only [Tryz.f176]
  repeat' (first
    | refine need_of ⟨by omega, by omega, lenM eI 1 (fun _ => rfl) _⟩ ?_
    | simp -implicitDefEqProofs only [go_sem, eI, takeM, List.length_take, Nat.reduceAdd, Nat.reduceEqDiff, Nat.reduceLT, Nat.reduceBEq, Nat.reduceLeDiff, Nat.reduceSub, Int.reduceLE, Int.reduceNeg, Int.reduceEq, Int.reduceToNat]
    | with_reducible refine know_of fun _ => ?_
    | (with_reducible refine does_then (clone_ints _ _ (by simp only [List.length_take]; omega) ?_))
    | (with_reducible refine does_then (clone_ints _ _ (by omega) ?_))
    | (with_reducible refine does_then (group_known _ _ _ ?_))
    | with_reducible refine ifD1 (by omega) ?_
    | with_reducible refine ifD0 (by omega) ?_
    | with_reducible refine ifE1 (by omega) ?_
    | with_reducible refine ifE0 (by omega) ?_
    | with_reducible refine ifN1 (by omega) ?_
    | with_reducible refine ifN0 (by omega) ?_
    | with_reducible refine ifD_of (fun _ => ?_) (fun _ => ?_)
    | with_reducible refine ifE_of (fun _ => ?_) (fun _ => ?_)
    | with_reducible refine ifN_of (fun _ => ?_) (fun _ => ?_)
    | with_reducible refine Go.V.if1 (by assumption) ?_
    | with_reducible refine Go.V.if0 (by assumption) ?_
    | with_reducible refine if_of (fun _ => ?_) (fun _ => ?_)
    | with_reducible refine s_of (idx_get _ _ _ (by omega) (by omega)) ?_
    | with_reducible refine s_of (idx_get _ _ _ (by omega) (by simp only [List.length_set, List.length_append, List.length_take, List.length_drop, List.length_reverse, List.length_singleton]; omega)) ?_
    | with_reducible refine s_of (map_get _ _ _ (by omega)) ?_
    | with_reducible refine s_of (map_get _ _ _ (by simp only [List.length_set]; omega)) ?_
    | with_reducible refine s_of (if_neg (by omega)) ?_
    | with_reducible refine s_of (if_pos (by omega)) ?_
    | with_reducible refine need_of (by omega) ?_
    | with_reducible refine nil_of (fun _ => ?_) ?_
    | with_reducible refine alt_of ?_ ?_
    | (with_reducible apply join_of; intro _ _)
    | with_reducible assumption)
  all_goals (simp (disch := omega) only [checkG, if_pos, if_neg] at h; first | exact h | (simpa [eI] using h))
theorem idxF_neg {α : Type} (p : α → Bool) : ∀ (l : List α) (i : Int), 0 ≤ i → decide (idxF p l i ≥ 0) = l.any p
  | [], i, _ => by simp [idxF]
  | x :: xs, i, hi => by
    rw [idxF]
    by_cases h : p x = true
    · rw [if_pos h]; simp [h]; omega
    · rw [if_neg h, idxF_neg p xs (i + 1) (by omega)]; simp [h]
theorem idxF_none {α : Type} (p : α → Bool) : ∀ (l : List α) (i : Int), 0 ≤ i → idxF p l i = -1 → ∀ x ∈ l, p x = false
  | [], i, _, _ => by simp
  | x :: xs, i, hi, h => by
    rw [idxF] at h
    by_cases hp : p x = true
    · rw [if_pos hp] at h; omega
    · rw [if_neg hp] at h
      intro y hy
      rcases List.mem_cons.1 hy with rfl | hy
      · simpa using hp
      · exact idxF_none p xs (i + 1) (by omega) h y hy
theorem idxF_some {α : Type} [Inhabited α] (p : α → Bool) : ∀ (l : List α) (i : Int), 0 ≤ i → idxF p l i ≠ -1 → ∃ k : Nat, idxF p l i = i + k ∧ k < l.length ∧ p (l.getD k default) = true ∧ ∀ x ∈ l.take k, p x = false
  | [], i, _, h => by simp [idxF] at h
  | x :: xs, i, hi, h => by
    rw [idxF] at h
    by_cases hp : p x = true
    · exact ⟨0, by rw [idxF, if_pos hp]; simp, by simp, by simpa using hp, by simp⟩
    · rw [if_neg hp] at h
      obtain ⟨k, h1, h2, h3, h4⟩ := idxF_some p xs (i + 1) (by omega) h
      refine ⟨k + 1, by rw [idxF, if_neg hp, h1]; omega, by simpa using h2, by simpa using h3, fun y hy => ?_⟩
      rw [List.take_succ_cons] at hy
      rcases List.mem_cons.1 hy with rfl | hy
      · simpa using hp
      · exact h4 y hy
theorem index_cnt (l : List Count) (g : FuncId) (p : Count → Bool) (Q : PV → Mem → Prop) (hg : ∀ c ∈ l, ∀ Q : PV → Mem → Prop, Q (vb (p c)) [] → Does Tryz.prog g [.agg [.sl (c.row.map eV), vi c.diff]] [] 0 Q) (h : Q (vi (idxF p l 0)) []) : Does Tryz.prog 136 [.sl (l.map eC), .fn g []] [] 0 Q := by
  refine does_of mixed Tryz.func136 rfl (by kernel_rfl) no (slots [(0, [0, 1, 7, 8])]) ?_
  simp only [Tryz.f136]
  repeat' (first
    | simp -implicitDefEqProofs only [go_sem, eC, Nat.reduceAdd, Nat.reduceEqDiff, Nat.reduceLT, Nat.reduceBEq, Nat.reduceLeDiff, Nat.reduceSub, Int.reduceLE, Int.reduceNeg, Int.reduceEq, Int.reduceToNat]
    | with_reducible refine know_of fun _ => ?_
    | with_reducible refine ifD1 (by omega) ?_
    | with_reducible refine ifD0 (by omega) ?_
    | with_reducible refine ifE1 (by omega) ?_
    | with_reducible refine ifE0 (by omega) ?_
    | with_reducible refine ifN1 (by omega) ?_
    | with_reducible refine ifN0 (by omega) ?_
    | with_reducible refine ifD_of (fun _ => ?_) (fun _ => ?_)
    | with_reducible refine ifE_of (fun _ => ?_) (fun _ => ?_)
    | with_reducible refine ifN_of (fun _ => ?_) (fun _ => ?_)
    | with_reducible refine Go.V.if1 (by assumption) ?_
    | with_reducible refine Go.V.if0 (by assumption) ?_
    | with_reducible refine if_of (fun _ => ?_) (fun _ => ?_)
    | with_reducible refine s_of (idx_get _ _ _ (by omega) (by omega)) ?_
    | with_reducible refine s_of (idx_get _ _ _ (by omega) (by simp only [List.length_set, List.length_append, List.length_take, List.length_drop, List.length_reverse, List.length_singleton]; omega)) ?_
    | with_reducible refine s_of (map_get _ _ _ (by omega)) ?_
    | with_reducible refine s_of (map_get _ _ _ (by simp only [List.length_set]; omega)) ?_
    | with_reducible refine s_of (if_neg (by omega)) ?_
    | with_reducible refine s_of (if_pos (by omega)) ?_
    | with_reducible refine need_of (by omega) ?_
    | with_reducible refine nil_of (fun _ => ?_) ?_
    | with_reducible refine alt_of ?_ ?_
    | (with_reducible apply join_of; intro _ _)
    | with_reducible assumption)
  refine loop_then (loop_ind (σ := Nat) (fun s => [(0, .sl (l.map eC)), (1, .fn g []), (7, vi l.length), (8, vi s)]) (fun s => []) (fun s => l.length - s) (fun s => s ≤ l.length ∧ idxF p (l.drop s) s = idxF p l 0) ?_ 0 ⟨Nat.zero_le _, rfl⟩)
  rintro X i ⟨hi, hQ⟩ ih
  try dsimp only at ih ⊢
  repeat' (first
    | simp -implicitDefEqProofs only [go_sem, eC, Int.toNat_natCast, Nat.reduceAdd, Nat.reduceEqDiff, Nat.reduceLT, Nat.reduceBEq, Nat.reduceLeDiff, Nat.reduceSub, Int.reduceLE, Int.reduceNeg, Int.reduceEq, Int.reduceToNat]
    | with_reducible refine know_of fun _ => ?_
    | (with_reducible refine does_then (hg _ (getD_mem' l i (by omega)) _ ?_))
    | with_reducible refine ifD1 (by omega) ?_
    | with_reducible refine ifD0 (by omega) ?_
    | with_reducible refine ifE1 (by omega) ?_
    | with_reducible refine ifE0 (by omega) ?_
    | with_reducible refine ifN1 (by omega) ?_
    | with_reducible refine ifN0 (by omega) ?_
    | with_reducible refine ifD_of (fun _ => ?_) (fun _ => ?_)
    | with_reducible refine ifE_of (fun _ => ?_) (fun _ => ?_)
    | with_reducible refine ifN_of (fun _ => ?_) (fun _ => ?_)
    | with_reducible refine Go.V.if1 (by assumption) ?_
    | with_reducible refine Go.V.if0 (by assumption) ?_
    | with_reducible refine if_of (fun _ => ?_) (fun _ => ?_)
    | with_reducible refine s_of (idx_get _ _ _ (by omega) (by omega)) ?_
    | with_reducible refine s_of (idx_get _ _ _ (by omega) (by simp only [List.length_set, List.length_append, List.length_take, List.length_drop, List.length_reverse, List.length_singleton]; omega)) ?_
    | with_reducible refine s_of (map_get _ _ _ (by omega)) ?_
    | with_reducible refine s_of (map_get _ _ _ (by simp only [List.length_set]; omega)) ?_
    | with_reducible refine s_of (if_neg (by omega)) ?_
    | with_reducible refine s_of (if_pos (by omega)) ?_
    | with_reducible refine need_of (by omega) ?_
    | with_reducible refine nil_of (fun _ => ?_) ?_
    | with_reducible refine alt_of ?_ ?_
    | (with_reducible apply join_of; intro _ _)
    | with_reducible assumption)
  · rw [drop_getD l i (by omega), idxF, if_pos (by assumption)] at hQ
    rw [← hQ] at h; exact h
  · rw [drop_getD l i (by omega), idxF, if_neg (by simp only [Bool.not_eq_true]; assumption)] at hQ
    rw [wnat i (by omega)]
    exact ih (i + 1) (by omega) ⟨by omega, by rw [← hQ]; rfl⟩
  · rw [List.drop_eq_nil_of_le (by omega)] at hQ
    rw [← hQ] at h; exact h
theorem index_cnt1 (l : List Count) (g : FuncId) (cs : List PV) (p : Count → Bool) (Q : PV → Mem → Prop) (hg : ∀ c ∈ l, ∀ Q : PV → Mem → Prop, Q (vb (p c)) [] → Does Tryz.prog g [.agg [.sl (c.row.map eV), vi c.diff], .cad cs] [] 0 Q) (h : Q (vi (idxF p l 0)) []) : Does Tryz.prog 136 [.sl (l.map eC), .fn g [.cad cs]] [] 0 Q := by
  refine does_of mixed Tryz.func136 rfl (by kernel_rfl) no (slots [(0, [0, 1, 7, 8])]) ?_
  simp only [Tryz.f136]
  repeat' (first
    | simp -implicitDefEqProofs only [go_sem, eC, Nat.reduceAdd, Nat.reduceEqDiff, Nat.reduceLT, Nat.reduceBEq, Nat.reduceLeDiff, Nat.reduceSub, Int.reduceLE, Int.reduceNeg, Int.reduceEq, Int.reduceToNat]
    | with_reducible refine know_of fun _ => ?_
    | with_reducible refine ifD1 (by omega) ?_
    | with_reducible refine ifD0 (by omega) ?_
    | with_reducible refine ifE1 (by omega) ?_
    | with_reducible refine ifE0 (by omega) ?_
    | with_reducible refine ifN1 (by omega) ?_
    | with_reducible refine ifN0 (by omega) ?_
    | with_reducible refine ifD_of (fun _ => ?_) (fun _ => ?_)
    | with_reducible refine ifE_of (fun _ => ?_) (fun _ => ?_)
    | with_reducible refine ifN_of (fun _ => ?_) (fun _ => ?_)
    | with_reducible refine Go.V.if1 (by assumption) ?_
    | with_reducible refine Go.V.if0 (by assumption) ?_
    | with_reducible refine if_of (fun _ => ?_) (fun _ => ?_)
    | with_reducible refine s_of (idx_get _ _ _ (by omega) (by omega)) ?_
    | with_reducible refine s_of (idx_get _ _ _ (by omega) (by simp only [List.length_set, List.length_append, List.length_take, List.length_drop, List.length_reverse, List.length_singleton]; omega)) ?_
    | with_reducible refine s_of (map_get _ _ _ (by omega)) ?_
    | with_reducible refine s_of (map_get _ _ _ (by simp only [List.length_set]; omega)) ?_
    | with_reducible refine s_of (if_neg (by omega)) ?_
    | with_reducible refine s_of (if_pos (by omega)) ?_
    | with_reducible refine need_of (by omega) ?_
    | with_reducible refine nil_of (fun _ => ?_) ?_
    | with_reducible refine alt_of ?_ ?_
    | (with_reducible apply join_of; intro _ _)
    | with_reducible assumption)
  refine loop_then (loop_ind (σ := Nat) (fun s => [(0, .sl (l.map eC)), (1, .fn g [.cad cs]), (7, vi l.length), (8, vi s)]) (fun s => []) (fun s => l.length - s) (fun s => s ≤ l.length ∧ idxF p (l.drop s) s = idxF p l 0) ?_ 0 ⟨Nat.zero_le _, rfl⟩)
  rintro X i ⟨hi, hQ⟩ ih
  try dsimp only at ih ⊢
  repeat' (first
    | simp -implicitDefEqProofs only [go_sem, eC, Int.toNat_natCast, Nat.reduceAdd, Nat.reduceEqDiff, Nat.reduceLT, Nat.reduceBEq, Nat.reduceLeDiff, Nat.reduceSub, Int.reduceLE, Int.reduceNeg, Int.reduceEq, Int.reduceToNat]
    | with_reducible refine know_of fun _ => ?_
    | (with_reducible refine does_then (hg _ (getD_mem' l i (by omega)) _ ?_))
    | with_reducible refine ifD1 (by omega) ?_
    | with_reducible refine ifD0 (by omega) ?_
    | with_reducible refine ifE1 (by omega) ?_
    | with_reducible refine ifE0 (by omega) ?_
    | with_reducible refine ifN1 (by omega) ?_
    | with_reducible refine ifN0 (by omega) ?_
    | with_reducible refine ifD_of (fun _ => ?_) (fun _ => ?_)
    | with_reducible refine ifE_of (fun _ => ?_) (fun _ => ?_)
    | with_reducible refine ifN_of (fun _ => ?_) (fun _ => ?_)
    | with_reducible refine Go.V.if1 (by assumption) ?_
    | with_reducible refine Go.V.if0 (by assumption) ?_
    | with_reducible refine if_of (fun _ => ?_) (fun _ => ?_)
    | with_reducible refine s_of (idx_get _ _ _ (by omega) (by omega)) ?_
    | with_reducible refine s_of (idx_get _ _ _ (by omega) (by simp only [List.length_set, List.length_append, List.length_take, List.length_drop, List.length_reverse, List.length_singleton]; omega)) ?_
    | with_reducible refine s_of (map_get _ _ _ (by omega)) ?_
    | with_reducible refine s_of (map_get _ _ _ (by simp only [List.length_set]; omega)) ?_
    | with_reducible refine s_of (if_neg (by omega)) ?_
    | with_reducible refine s_of (if_pos (by omega)) ?_
    | with_reducible refine need_of (by omega) ?_
    | with_reducible refine nil_of (fun _ => ?_) ?_
    | with_reducible refine alt_of ?_ ?_
    | (with_reducible apply join_of; intro _ _)
    | with_reducible assumption)
  · rw [drop_getD l i (by omega), idxF, if_pos (by assumption)] at hQ
    rw [← hQ] at h; exact h
  · rw [drop_getD l i (by omega), idxF, if_neg (by simp only [Bool.not_eq_true]; assumption)] at hQ
    rw [wnat i (by omega)]
    exact ih (i + 1) (by omega) ⟨by omega, by rw [← hQ]; rfl⟩
  · rw [List.drop_eq_nil_of_le (by omega)] at hQ
    rw [← hQ] at h; exact h
theorem contains_cnt (l : List Count) (g : FuncId) (cs : List PV) (p : Count → Bool) (Q : PV → Mem → Prop) (hg : ∀ c ∈ l, ∀ Q : PV → Mem → Prop, Q (vb (p c)) [] → Does Tryz.prog g [.agg [.sl (c.row.map eV), vi c.diff], .cad cs] [] 0 Q) (h : Q (vb (l.any p)) []) : Does Tryz.prog 94 [.sl (l.map eC), .fn g [.cad cs]] [] 0 Q := by
  refine does_of mixed Tryz.func94 rfl (by kernel_rfl) no (slots []) ?_
  simp only [Tryz.f94]
  repeat' (first
    | simp -implicitDefEqProofs only [go_sem, Nat.reduceAdd, Nat.reduceEqDiff, Nat.reduceLT, Nat.reduceBEq, Nat.reduceLeDiff, Nat.reduceSub, Int.reduceLE, Int.reduceNeg, Int.reduceEq, Int.reduceToNat]
    | with_reducible refine know_of fun _ => ?_
    | (with_reducible refine does_then (index_cnt1 _ _ _ p _ hg ?_))
    | with_reducible refine ifD1 (by omega) ?_
    | with_reducible refine ifD0 (by omega) ?_
    | with_reducible refine ifE1 (by omega) ?_
    | with_reducible refine ifE0 (by omega) ?_
    | with_reducible refine ifN1 (by omega) ?_
    | with_reducible refine ifN0 (by omega) ?_
    | with_reducible refine ifD_of (fun _ => ?_) (fun _ => ?_)
    | with_reducible refine ifE_of (fun _ => ?_) (fun _ => ?_)
    | with_reducible refine ifN_of (fun _ => ?_) (fun _ => ?_)
    | with_reducible refine Go.V.if1 (by assumption) ?_
    | with_reducible refine Go.V.if0 (by assumption) ?_
    | with_reducible refine if_of (fun _ => ?_) (fun _ => ?_)
    | with_reducible refine s_of (idx_get _ _ _ (by omega) (by omega)) ?_
    | with_reducible refine s_of (idx_get _ _ _ (by omega) (by simp only [List.length_set, List.length_append, List.length_take, List.length_drop, List.length_reverse, List.length_singleton]; omega)) ?_
    | with_reducible refine s_of (map_get _ _ _ (by omega)) ?_
    | with_reducible refine s_of (map_get _ _ _ (by simp only [List.length_set]; omega)) ?_
    | with_reducible refine s_of (if_neg (by omega)) ?_
    | with_reducible refine s_of (if_pos (by omega)) ?_
    | with_reducible refine need_of (by omega) ?_
    | with_reducible refine nil_of (fun _ => ?_) ?_
    | with_reducible refine alt_of ?_ ?_
    | (with_reducible apply join_of; intro _ _)
    | with_reducible assumption)
  all_goals (rw [idxF_neg _ _ _ (Int.le_refl _)]; exact h)
theorem filter_none {α : Type} (p : α → Bool) (l : List α) (h : ∀ x ∈ l, p x = false) : l.filter (fun x => !p x) = l := List.filter_eq_self.2 fun x hx => by rw [h x hx]; rfl
theorem filter_take_succ {α : Type} [Inhabited α] (p : α → Bool) (l : List α) (j : Nat) (h : j < l.length) : (l.take (j + 1)).filter (fun x => !p x) = (l.take j).filter (fun x => !p x) ++ (if p (l.getD j default) = true then [] else [l.getD j default]) := by
  rw [take_cons' l j h, List.filter_append]
  by_cases hp : p (l.getD j default) = true
  · rw [if_pos hp, List.filter_cons_of_neg (by rw [hp]; simp), List.filter_nil]
  · rw [if_neg hp, List.filter_cons_of_pos (by simpa using hp), List.filter_nil]
theorem set_kept {α : Type} [Inhabited α] (K l : List α) (c : α) (h : K.length < l.length) : (K ++ l.drop K.length).set K.length c = (K ++ [c]) ++ l.drop (K.length + 1) := by
  rw [List.set_append_right _ _ (Nat.le_refl _), Nat.sub_self, drop_getD l K.length h, List.set_cons_zero]; simp
theorem setC (l : List Count) (i : Nat) (r : List Val) (d : Int) : (l.map eC).set i [.sl (r.map eV), vi d] = (l.set i ⟨r, d⟩).map eC := by rw [List.map_set]; rfl
def lentG : FuncId → Bool := fun f => f == 190 || f == 146
theorem lentG_190 : lentG 190 = true := rfl
theorem lentG_146 : lentG 146 = true := rfl
theorem lentG_136 : lentG 136 = false := rfl
theorem lentG_191 : lentG 191 = false := rfl
theorem lentG_143 : lentG 143 = false := rfl
theorem lentG_144 : lentG 144 = false := rfl
theorem lentG_145 : lentG 145 = false := rfl
theorem lentG_147 : lentG 147 = false := rfl
theorem lentG_148 : lentG 148 = false := rfl
attribute [go_sem] lentG_190 lentG_146 lentG_136 lentG_191 lentG_143 lentG_144 lentG_145 lentG_147 lentG_148
theorem delete_cnt (l : List Count) (g : FuncId) (p : Count → Bool) (Q : PV → Mem → Prop) (hl : l.length ≤ 1000000) (hg : ∀ c ∈ l, ∀ Q : PV → Mem → Prop, Q (vb (p c)) [] → Does Tryz.prog g [.agg [.sl (c.row.map eV), vi c.diff]] [] 0 Q) (h0 : l.filter (fun x => !p x) = l → Q (.own 0) [.row 61 (l.map eC)]) (h : ∀ (es : List (List PV)) (k : Nat), k ≤ es.length → es.take k = (l.filter fun x => !p x).map eC → Q (.osl 0 0 k) [.row 61 es]) : Does Tryz.prog 190 [.own 0, .fn g []] [.row 61 (l.map eC)] 1 Q := by
  refine does_of mixed Tryz.func190 rfl (by kernel_rfl) no (slots [(0, [0, 1, 5, 6])]) ?_
  simp only [Tryz.f190]
  repeat' (first
    | simp -implicitDefEqProofs only [go_sem, eC, Nat.reduceAdd, Nat.reduceEqDiff, Nat.reduceLT, Nat.reduceBEq, Nat.reduceLeDiff, Nat.reduceSub, Int.reduceLE, Int.reduceNeg, Int.reduceEq, Int.reduceToNat]
    | with_reducible refine know_of fun _ => ?_
    | (with_reducible refine does_then (index_cnt _ _ p _ hg ?_))
    | with_reducible refine ifD1 (by omega) ?_
    | with_reducible refine ifD0 (by omega) ?_
    | with_reducible refine ifE1 (by omega) ?_
    | with_reducible refine ifE0 (by omega) ?_
    | with_reducible refine ifN1 (by omega) ?_
    | with_reducible refine ifN0 (by omega) ?_
    | with_reducible refine ifD_of (fun _ => ?_) (fun _ => ?_)
    | with_reducible refine ifE_of (fun _ => ?_) (fun _ => ?_)
    | with_reducible refine ifN_of (fun _ => ?_) (fun _ => ?_)
    | with_reducible refine Go.V.if1 (by assumption) ?_
    | with_reducible refine Go.V.if0 (by assumption) ?_
    | with_reducible refine if_of (fun _ => ?_) (fun _ => ?_)
    | with_reducible refine s_of (idx_get _ _ _ (by omega) (by omega)) ?_
    | with_reducible refine s_of (idx_get _ _ _ (by omega) (by simp only [List.length_set, List.length_append, List.length_take, List.length_drop, List.length_reverse, List.length_singleton]; omega)) ?_
    | with_reducible refine s_of (map_get _ _ _ (by omega)) ?_
    | with_reducible refine s_of (map_get _ _ _ (by simp only [List.length_set]; omega)) ?_
    | with_reducible refine s_of (if_neg (by omega)) ?_
    | with_reducible refine s_of (if_pos (by omega)) ?_
    | with_reducible refine need_of (by omega) ?_
    | with_reducible refine nil_of (fun _ => ?_) ?_
    | with_reducible refine alt_of ?_ ?_
    | (with_reducible apply join_of; intro _ _)
    | with_reducible assumption)
  · exact h0 (filter_none p l (idxF_none p l 0 (Int.le_refl _) (by assumption)))
  obtain ⟨k, hk, hkl, hp, hn⟩ := idxF_some p l 0 (Int.le_refl _) (by assumption)
  rw [show idxF p l 0 = (k : Int) by omega, wnat k (by omega)]
  have hf0 : (l.take (k + 1)).filter (fun x => !p x) = l.take k := by rw [filter_take_succ p l k hkl, if_pos hp, List.append_nil, filter_none p _ hn]
  rw [show l.map eC = ((l.take (k + 1)).filter (fun x => !p x) ++ l.drop k).map eC by rw [hf0, List.take_append_drop]]
  refine loop_then (loop_ind (σ := Nat × Nat) (fun s => [(0, .own 0), (1, .fn g []), (5, vi s.2), (6, vi s.1)]) (fun s => [.row 61 (((l.take s.1).filter (fun x => !p x) ++ l.drop s.2).map eC)]) (fun s => l.length - s.1) (fun s => s.2 < s.1 ∧ s.1 ≤ l.length ∧ ((l.take s.1).filter (fun x => !p x)).length = s.2) ?_ (k + 1, k) ⟨by dsimp only; omega, by dsimp only; omega, by dsimp only; rw [hf0, List.length_take]; omega⟩)
  rintro X ⟨j, i⟩ ⟨hi, hj, hs⟩ ih
  try dsimp only at ih ⊢
  dsimp only at hi hj hs
  have hL : ∃ L, L = List.filter (fun x => !p x) (List.take j l) ++ List.drop i l := ⟨_, rfl⟩
  obtain ⟨L, hL⟩ := hL
  rw [← hL]
  have hlen : L.length = l.length := by rw [hL, List.length_append, hs, List.length_drop]; omega
  have hget : j < l.length → L.getD j default = l.getD j default := by
    intro hj2
    rw [hL, List.getD_eq_getElem?_getD, List.getElem?_append_right (by omega), hs, List.getElem?_drop, show i + (j - i) = j by omega, List.getD_eq_getElem?_getD]
  repeat' (first
    | rw [setC]
    | simp -implicitDefEqProofs only [go_sem, eC, Int.toNat_natCast, Nat.reduceAdd, Nat.reduceEqDiff, Nat.reduceLT, Nat.reduceBEq, Nat.reduceLeDiff, Nat.reduceSub, Int.reduceLE, Int.reduceNeg, Int.reduceEq, Int.reduceToNat]
    | with_reducible refine know_of fun _ => ?_
    | (with_reducible refine does_then (hg _ (by rw [hget (by omega)]; exact getD_mem' _ _ (by omega)) _ ?_))
    | with_reducible refine ifD1 (by omega) ?_
    | with_reducible refine ifD0 (by omega) ?_
    | with_reducible refine ifE1 (by omega) ?_
    | with_reducible refine ifE0 (by omega) ?_
    | with_reducible refine ifN1 (by omega) ?_
    | with_reducible refine ifN0 (by omega) ?_
    | with_reducible refine ifD_of (fun _ => ?_) (fun _ => ?_)
    | with_reducible refine ifE_of (fun _ => ?_) (fun _ => ?_)
    | with_reducible refine ifN_of (fun _ => ?_) (fun _ => ?_)
    | with_reducible refine Go.V.if1 (by assumption) ?_
    | with_reducible refine Go.V.if0 (by assumption) ?_
    | with_reducible refine if_of (fun _ => ?_) (fun _ => ?_)
    | with_reducible refine s_of (idx_get _ _ _ (by omega) (by omega)) ?_
    | with_reducible refine s_of (idx_get _ _ _ (by omega) (by simp only [List.length_set, List.length_append, List.length_take, List.length_drop, List.length_reverse, List.length_singleton]; omega)) ?_
    | with_reducible refine s_of (map_get _ _ _ (by omega)) ?_
    | with_reducible refine s_of (map_get _ _ _ (by simp only [List.length_set]; omega)) ?_
    | with_reducible refine s_of (if_neg (by omega)) ?_
    | with_reducible refine s_of (if_pos (by omega)) ?_
    | with_reducible refine need_of (by omega) ?_
    | with_reducible refine nil_of (fun _ => ?_) ?_
    | with_reducible refine alt_of ?_ ?_
    | (with_reducible apply join_of; intro _ _)
    | with_reducible assumption)
  · rename_i hpL _
    rw [wnat j (by omega)]
    rw [hget (by omega)] at hpL
    have ih1 := ih (j + 1, i) (by dsimp only; omega) ⟨by dsimp only; omega, by dsimp only; omega, by dsimp only; rw [filter_take_succ p l j (by omega), if_pos hpL, List.append_nil]; exact hs⟩
    dsimp only at ih1
    rw [filter_take_succ p l j (by omega), if_pos hpL, List.append_nil, ← hL] at ih1
    exact ih1
  · rename_i hpL _ _
    rw [wnat j (by omega), wnat i (by omega)]
    rw [hget (by omega)] at hpL ⊢
    have e1 : L.set i (l.getD j default) = (l.take (j + 1)).filter (fun x => !p x) ++ l.drop (i + 1) := by
      rw [hL, ← hs, set_kept _ _ _ (by omega), filter_take_succ p l j (by omega), if_neg (by rw [hpL]; exact Bool.false_ne_true)]
    have ih1 := ih (j + 1, i + 1) (by dsimp only; omega) ⟨by dsimp only; omega, by dsimp only; omega, by dsimp only; rw [filter_take_succ p l j (by omega), if_neg (by rw [hpL]; exact Bool.false_ne_true), List.length_append, hs]; rfl⟩
    dsimp only at ih1
    rw [← e1] at ih1
    exact ih1
  · have e1 : L.take i = l.filter (fun x => !p x) := by
      rw [hL, ← hs, List.take_left, List.take_of_length_le (by omega)]
    refine need_of (by simp only [List.length_take, List.length_map, List.length_replicate, List.length_drop]; omega) ?_
    simp -implicitDefEqProofs only [go_sem]
    refine h _ _ (by simp only [List.length_append, List.length_take, List.length_map, List.length_replicate, List.length_drop]; omega) ?_
    rw [List.take_append_of_le_length (by simp only [List.length_take, List.length_map]; omega), List.take_take, Int.toNat_natCast, Nat.min_self, ← List.map_take, e1]
end Go.V
