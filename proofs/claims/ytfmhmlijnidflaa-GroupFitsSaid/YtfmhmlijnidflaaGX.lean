import Derived.Test.YtfmhmlijnidflaaSB
import Derived.Test.YtfmhmlijnidflaaLA
import Derived.Test.YtfmhmlijnidflaaLG2
import Derived.Test.YtfmhmlijnidflaaL9
import Derived.Test.YtfmhmlijnidflaaSH
namespace Go.V
open Go Go.RowKit Go.Proofs
set_option maxRecDepth 100000
set_option maxHeartbeats 4000000
set_option linter.unusedVariables false
set_option linter.unusedSimpArgs false
def sumW : List Int → Int → Int × Int
  | [], n => (n, 0)
  | x :: l, n => if (over (n + x)).2 ≠ 0 then (0, (over (n + x)).2) else sumW l (over (n + x)).1
def dotW : List Int → List Int → Int → Int × Int
  | x :: l, y :: k, n => if (over (x * y)).2 ≠ 0 then (0, (over (x * y)).2) else if (over (n + (over (x * y)).1)).2 ≠ 0 then (0, (over (n + (over (x * y)).1)).2) else dotW l k (over (n + (over (x * y)).1)).1
  | _, _, n => (n, 0)
def knownG (kind n : Int) : Int := if kind < 0 ∨ 6 ≤ kind then 8 else if kind = 5 ∧ (n < 1 ∨ 1000 < n) then 1 else 0
def checkG (kind key n : Int) (kinds : List Int) : List Int × Int :=
  if kind < 0 ∨ 6 ≤ kind then ([], 8)
  else if kind ≠ 0 ∧ (key < 0 ∨ (kinds.length : Int) < key) then ([], 9)
  else if kind = 2 ∧ (n < 0 ∨ (kinds.length : Int) ≤ n) then ([], 9)
  else if kind = 2 ∧ kinds.getD n.toNat default ≠ 0 then ([], 80)
  else if kind = 1 ∨ kind = 2 then (if 16 ≤ key then ([], 3) else (kinds.take key.toNat ++ [0], 0))
  else if knownG kind n ≠ 0 then ([], knownG kind n) else (kinds, 0)
def idxF {α : Type} (p : α → Bool) : List α → Int → Int
  | [], _ => -1
  | x :: l, i => if p x = true then i else idxF p l (i + 1)
theorem getD_mem' {α : Type} [Inhabited α] (l : List α) (i : Nat) (h : i < l.length) : l.getD i default ∈ l := by
  rw [List.getD_eq_getElem?_getD, List.getElem?_eq_getElem h]; exact List.getElem_mem h
theorem take_cons' {α : Type} [Inhabited α] (l : List α) (i : Nat) (h : i < l.length) : l.take (i + 1) = l.take i ++ [l.getD i default] := by
  rw [List.getD_eq_getElem?_getD, List.getElem?_eq_getElem h, List.take_succ_eq_append_getElem h]; rfl
theorem weigh_sum (l : List Int) (Q : PV → Mem → Prop)  (h : Q (.tup [vi (sumW l 0).1, vi (sumW l 0).2]) []) : Does Try.prog 167 [.sl (l.map eI)] [] 0 Q := by
  refine does_of mixed Try.func167 rfl (by kernel_rfl) no (slots [(0, [4, 8, 9, 10])]) ?_
  simp only [Try.f167]
  repeat' (first
    | simp -implicitDefEqProofs only [go_sem, eI, Nat.reduceAdd, Nat.reduceEqDiff, Nat.reduceLT, Nat.reduceBEq, Nat.reduceLeDiff, Nat.reduceSub, Int.reduceLE, Int.reduceNeg, Int.reduceEq, Int.reduceToNat]
    | with_reducible refine know_of fun _ => ?_
    | with_reducible refine ifD1 (by omega) ?_
    | with_reducible refine ifD0 (by omega) ?_
    | with_reducible refine ifE1 (by omega) ?_
    | with_reducible refine ifE0 (by omega) ?_
    | with_reducible refine ifN1 (by omega) ?_
    | with_reducible refine ifN0 (by omega) ?_
    | with_reducible refine ifD_of (fun _ => ?_) (fun _ => ?_)
    | with_reducible refine ifE_of (fun _ => ?_) (fun _ => ?_)
    | with_reducible refine ifN_of (fun _ => ?_) (fun _ => ?_)
    | with_reducible refine Go.V.if1 (by assumption) ?_
    | with_reducible refine Go.V.if0 (by assumption) ?_
    | with_reducible refine if_of (fun _ => ?_) (fun _ => ?_)
    | with_reducible refine s_of (idx_get _ _ _ (by omega) (by omega)) ?_
    | with_reducible refine s_of (idx_get _ _ _ (by omega) (by simp only [List.length_set, List.length_append, List.length_take, List.length_drop, List.length_reverse, List.length_singleton]; omega)) ?_
    | with_reducible refine s_of (map_get _ _ _ (by omega)) ?_
    | with_reducible refine s_of (map_get _ _ _ (by simp only [List.length_set]; omega)) ?_
    | with_reducible refine s_of (if_neg (by omega)) ?_
    | with_reducible refine s_of (if_pos (by omega)) ?_
    | with_reducible refine need_of (by omega) ?_
    | with_reducible refine nil_of (fun _ => ?_) ?_
    | with_reducible refine alt_of ?_ ?_
    | (with_reducible apply join_of; intro _ _)
    | with_reducible assumption)
  refine loop_then (loop_ind (σ := Nat × Int) (fun s => [(4, vi s.2), (8, .sl (l.map eI)), (9, vi l.length), (10, vi s.1)]) (fun s => []) (fun s => l.length - s.1) (fun s => s.1 ≤ l.length ∧ sumW (l.drop s.1) s.2 = sumW l 0) ?_ (0, 0) ⟨Nat.zero_le _, rfl⟩)
  rintro X ⟨i, n⟩ ⟨hi, hs⟩ ih
  try dsimp only at ih ⊢
  dsimp only at hi hs
  repeat' (first
    | simp -implicitDefEqProofs only [go_sem, eI, Int.toNat_natCast, Nat.reduceAdd, Nat.reduceEqDiff, Nat.reduceLT, Nat.reduceBEq, Nat.reduceLeDiff, Nat.reduceSub, Int.reduceLE, Int.reduceNeg, Int.reduceEq, Int.reduceToNat]
    | with_reducible refine know_of fun _ => ?_
    | (with_reducible refine does_then (weigh_Add _ _ _ ?_))
    | with_reducible refine ifD1 (by omega) ?_
    | with_reducible refine ifD0 (by omega) ?_
    | with_reducible refine ifE1 (by omega) ?_
    | with_reducible refine ifE0 (by omega) ?_
    | with_reducible refine ifN1 (by omega) ?_
    | with_reducible refine ifN0 (by omega) ?_
    | with_reducible refine ifD_of (fun _ => ?_) (fun _ => ?_)
    | with_reducible refine ifE_of (fun _ => ?_) (fun _ => ?_)
    | with_reducible refine ifN_of (fun _ => ?_) (fun _ => ?_)
    | with_reducible refine Go.V.if1 (by assumption) ?_
    | with_reducible refine Go.V.if0 (by assumption) ?_
    | with_reducible refine if_of (fun _ => ?_) (fun _ => ?_)
    | with_reducible refine s_of (idx_get _ _ _ (by omega) (by omega)) ?_
    | with_reducible refine s_of (idx_get _ _ _ (by omega) (by simp only [List.length_set, List.length_append, List.length_take, List.length_drop, List.length_reverse, List.length_singleton]; omega)) ?_
    | with_reducible refine s_of (map_get _ _ _ (by omega)) ?_
    | with_reducible refine s_of (map_get _ _ _ (by simp only [List.length_set]; omega)) ?_
    | with_reducible refine s_of (if_neg (by omega)) ?_
    | with_reducible refine s_of (if_pos (by omega)) ?_
    | with_reducible refine need_of (by omega) ?_
    | with_reducible refine nil_of (fun _ => ?_) ?_
    | with_reducible refine alt_of ?_ ?_
    | (with_reducible apply join_of; intro _ _)
    | with_reducible assumption)
  · rename_i h0 _
    rw [drop_getD l i (by omega), sumW, if_pos (by omega)] at hs
    rw [← hs] at h; exact h
  · rename_i h0 _
    rw [drop_getD l i (by omega), sumW, if_neg (by omega)] at hs
    rw [wnat i (by omega)]
    exact ih (i + 1, _) (by dsimp only; omega) ⟨by dsimp only; omega, hs⟩
  · rw [List.drop_eq_nil_of_le (by omega)] at hs
    rw [← hs] at h; exact h
theorem weigh_Sum (l : List Int) (Q : PV → Mem → Prop)  (h : Q (.tup [vi (sumW l 0).1, vi (sumW l 0).2]) []) : Does Try.prog 144 [.sl (l.map eI)] [] 0 Q := by
  refine does_of mixed Try.func144 rfl (by kernel_rfl) no (slots []) ?_
  simp only [Try.f144]
  repeat' (first
    | simp -implicitDefEqProofs only [go_sem, Nat.reduceAdd, Nat.reduceEqDiff, Nat.reduceLT, Nat.reduceBEq, Nat.reduceLeDiff, Nat.reduceSub, Int.reduceLE, Int.reduceNeg, Int.reduceEq, Int.reduceToNat]
    | with_reducible refine know_of fun _ => ?_
    | (with_reducible refine does_then (weigh_sum _ _ ?_))
    | with_reducible refine ifD1 (by omega) ?_
    | with_reducible refine ifD0 (by omega) ?_
    | with_reducible refine ifE1 (by omega) ?_
    | with_reducible refine ifE0 (by omega) ?_
    | with_reducible refine ifN1 (by omega) ?_
    | with_reducible refine ifN0 (by omega) ?_
    | with_reducible refine ifD_of (fun _ => ?_) (fun _ => ?_)
    | with_reducible refine ifE_of (fun _ => ?_) (fun _ => ?_)
    | with_reducible refine ifN_of (fun _ => ?_) (fun _ => ?_)
    | with_reducible refine Go.V.if1 (by assumption) ?_
    | with_reducible refine Go.V.if0 (by assumption) ?_
    | with_reducible refine if_of (fun _ => ?_) (fun _ => ?_)
    | with_reducible refine s_of (idx_get _ _ _ (by omega) (by omega)) ?_
    | with_reducible refine s_of (idx_get _ _ _ (by omega) (by simp only [List.length_set, List.length_append, List.length_take, List.length_drop, List.length_reverse, List.length_singleton]; omega)) ?_
    | with_reducible refine s_of (map_get _ _ _ (by omega)) ?_
    | with_reducible refine s_of (map_get _ _ _ (by simp only [List.length_set]; omega)) ?_
    | with_reducible refine s_of (if_neg (by omega)) ?_
    | with_reducible refine s_of (if_pos (by omega)) ?_
    | with_reducible refine need_of (by omega) ?_
    | with_reducible refine nil_of (fun _ => ?_) ?_
    | with_reducible refine alt_of ?_ ?_
    | (with_reducible apply join_of; intro _ _)
    | with_reducible assumption)
  all_goals first | exact h | simpa using h
theorem weigh_Dot (l k : List Int) (Q : PV → Mem → Prop) (hlk : l.length = k.length) (h : Q (.tup [vi (dotW l k 0).1, vi (dotW l k 0).2]) []) : Does Try.prog 145 [.sl (l.map eI), .sl (k.map eI)] [] 0 Q := by
  refine does_of mixed Try.func145 rfl (by kernel_rfl) no (slots [(0, [1, 6, 16, 17, 18])]) ?_
  simp only [Try.f145]
  repeat' (first
    | simp -implicitDefEqProofs only [go_sem, eI, Nat.reduceAdd, Nat.reduceEqDiff, Nat.reduceLT, Nat.reduceBEq, Nat.reduceLeDiff, Nat.reduceSub, Int.reduceLE, Int.reduceNeg, Int.reduceEq, Int.reduceToNat]
    | with_reducible refine know_of fun _ => ?_
    | with_reducible refine ifD1 (by omega) ?_
    | with_reducible refine ifD0 (by omega) ?_
    | with_reducible refine ifE1 (by omega) ?_
    | with_reducible refine ifE0 (by omega) ?_
    | with_reducible refine ifN1 (by omega) ?_
    | with_reducible refine ifN0 (by omega) ?_
    | with_reducible refine ifD_of (fun _ => ?_) (fun _ => ?_)
    | with_reducible refine ifE_of (fun _ => ?_) (fun _ => ?_)
    | with_reducible refine ifN_of (fun _ => ?_) (fun _ => ?_)
    | with_reducible refine Go.V.if1 (by assumption) ?_
    | with_reducible refine Go.V.if0 (by assumption) ?_
    | with_reducible refine if_of (fun _ => ?_) (fun _ => ?_)
    | with_reducible refine s_of (idx_get _ _ _ (by omega) (by omega)) ?_
    | with_reducible refine s_of (idx_get _ _ _ (by omega) (by simp only [List.length_set, List.length_append, List.length_take, List.length_drop, List.length_reverse, List.length_singleton]; omega)) ?_
    | with_reducible refine s_of (map_get _ _ _ (by omega)) ?_
    | with_reducible refine s_of (map_get _ _ _ (by simp only [List.length_set]; omega)) ?_
    | with_reducible refine s_of (if_neg (by omega)) ?_
    | with_reducible refine s_of (if_pos (by omega)) ?_
    | with_reducible refine need_of (by omega) ?_
    | with_reducible refine nil_of (fun _ => ?_) ?_
    | with_reducible refine alt_of ?_ ?_
    | (with_reducible apply join_of; intro _ _)
    | with_reducible assumption)
  refine loop_then (loop_ind (σ := Nat × Int) (fun s => [(1, .sl (k.map eI)), (6, vi s.2), (16, .sl (l.map eI)), (17, vi l.length), (18, vi s.1)]) (fun s => []) (fun s => l.length - s.1) (fun s => s.1 ≤ l.length ∧ dotW (l.drop s.1) (k.drop s.1) s.2 = dotW l k 0) ?_ (0, 0) ⟨Nat.zero_le _, rfl⟩)
  rintro X ⟨i, n⟩ ⟨hi, hs⟩ ih
  try dsimp only at ih ⊢
  dsimp only at hi hs
  repeat' (first
    | simp -implicitDefEqProofs only [go_sem, eI, Int.toNat_natCast, Nat.reduceAdd, Nat.reduceEqDiff, Nat.reduceLT, Nat.reduceBEq, Nat.reduceLeDiff, Nat.reduceSub, Int.reduceLE, Int.reduceNeg, Int.reduceEq, Int.reduceToNat]
    | with_reducible refine know_of fun _ => ?_
    | (with_reducible refine does_then (weigh_Mul _ _ _ ?_))
    | (with_reducible refine does_then (weigh_Add _ _ _ ?_))
    | with_reducible refine ifD1 (by omega) ?_
    | with_reducible refine ifD0 (by omega) ?_
    | with_reducible refine ifE1 (by omega) ?_
    | with_reducible refine ifE0 (by omega) ?_
    | with_reducible refine ifN1 (by omega) ?_
    | with_reducible refine ifN0 (by omega) ?_
    | with_reducible refine ifD_of (fun _ => ?_) (fun _ => ?_)
    | with_reducible refine ifE_of (fun _ => ?_) (fun _ => ?_)
    | with_reducible refine ifN_of (fun _ => ?_) (fun _ => ?_)
    | with_reducible refine Go.V.if1 (by assumption) ?_
    | with_reducible refine Go.V.if0 (by assumption) ?_
    | with_reducible refine if_of (fun _ => ?_) (fun _ => ?_)
    | with_reducible refine s_of (idx_get _ _ _ (by omega) (by omega)) ?_
    | with_reducible refine s_of (idx_get _ _ _ (by omega) (by simp only [List.length_set, List.length_append, List.length_take, List.length_drop, List.length_reverse, List.length_singleton]; omega)) ?_
    | with_reducible refine s_of (map_get _ _ _ (by omega)) ?_
    | with_reducible refine s_of (map_get _ _ _ (by simp only [List.length_set]; omega)) ?_
    | with_reducible refine s_of (if_neg (by omega)) ?_
    | with_reducible refine s_of (if_pos (by omega)) ?_
    | with_reducible refine need_of (by omega) ?_
    | with_reducible refine nil_of (fun _ => ?_) ?_
    | with_reducible refine alt_of ?_ ?_
    | (with_reducible apply join_of; intro _ _)
    | with_reducible assumption)
  · rename_i h1
    rw [drop_getD l i (by omega), drop_getD k i (by omega), dotW, if_pos h1] at hs
    rw [← hs] at h; exact h
  · rename_i h1 h2
    rw [drop_getD l i (by omega), drop_getD k i (by omega), dotW, if_neg (by omega), if_pos h2] at hs
    rw [← hs] at h; exact h
  · rename_i h1 h2 _
    rw [drop_getD l i (by omega), drop_getD k i (by omega), dotW, if_neg (by omega), if_neg (by omega)] at hs
    rw [wnat i (by omega)]
    exact ih (i + 1, _) (by dsimp only; omega) ⟨by dsimp only; omega, hs⟩
  · rw [List.drop_eq_nil_of_le (by omega), List.drop_eq_nil_of_le (by omega)] at hs
    rw [← hs] at h; exact h
theorem group_known (k n : Int) (Q : PV → Mem → Prop)  (h : Q (vi (knownG k n)) []) : Does Try.prog 57 [vi k, vi n] [] 0 Q := by
  refine does_of mixed Try.func57 rfl (by kernel_rfl) no (slots []) ?_
  simp only [Try.f57]
  repeat' (first
    | simp -implicitDefEqProofs only [go_sem, Nat.reduceAdd, Nat.reduceEqDiff, Nat.reduceLT, Nat.reduceBEq, Nat.reduceLeDiff, Nat.reduceSub, Int.reduceLE, Int.reduceNeg, Int.reduceEq, Int.reduceToNat]
    | with_reducible refine know_of fun _ => ?_
    | with_reducible refine ifD1 (by omega) ?_
    | with_reducible refine ifD0 (by omega) ?_
    | with_reducible refine ifE1 (by omega) ?_
    | with_reducible refine ifE0 (by omega) ?_
    | with_reducible refine ifN1 (by omega) ?_
    | with_reducible refine ifN0 (by omega) ?_
    | with_reducible refine ifD_of (fun _ => ?_) (fun _ => ?_)
    | with_reducible refine ifE_of (fun _ => ?_) (fun _ => ?_)
    | with_reducible refine ifN_of (fun _ => ?_) (fun _ => ?_)
    | with_reducible refine Go.V.if1 (by assumption) ?_
    | with_reducible refine Go.V.if0 (by assumption) ?_
    | with_reducible refine if_of (fun _ => ?_) (fun _ => ?_)
    | with_reducible refine s_of (idx_get _ _ _ (by omega) (by omega)) ?_
    | with_reducible refine s_of (idx_get _ _ _ (by omega) (by simp only [List.length_set, List.length_append, List.length_take, List.length_drop, List.length_reverse, List.length_singleton]; omega)) ?_
    | with_reducible refine s_of (map_get _ _ _ (by omega)) ?_
    | with_reducible refine s_of (map_get _ _ _ (by simp only [List.length_set]; omega)) ?_
    | with_reducible refine s_of (if_neg (by omega)) ?_
    | with_reducible refine s_of (if_pos (by omega)) ?_
    | with_reducible refine need_of (by omega) ?_
    | with_reducible refine nil_of (fun _ => ?_) ?_
    | with_reducible refine alt_of ?_ ?_
    | (with_reducible apply join_of; intro _ _)
    | with_reducible assumption)
  all_goals first | exact h | (simp only [knownG] at h; (repeat' split at h) <;> first | exact h | contradiction | (exfalso; omega) | (exfalso; simp_all; done) | (simpa [*, -h] using h))
theorem group_Check (kind key n : Int) (kinds : List Int) (Q : PV → Mem → Prop) (hl : kinds.length ≤ 1000000) (h : Q (.tup [.own 0, vi (checkG kind key n kinds).2]) [.row 3 ((checkG kind key n kinds).1.map eI)]) : Does Try.prog 29 [vi kind, vi key, vi n, .sl (kinds.map eI)] [] 0 Q := by
  refine does_of mixed Try.func29 rfl (by kernel_rfl) no (slots []) ?_
  simp only [Try.f29]
  repeat' (first
    | refine need_of ⟨by omega, by omega, lenM eI 1 (fun _ => rfl) _⟩ ?_
    | simp -implicitDefEqProofs only [go_sem, eI, takeM, List.length_take, Nat.reduceAdd, Nat.reduceEqDiff, Nat.reduceLT, Nat.reduceBEq, Nat.reduceLeDiff, Nat.reduceSub, Int.reduceLE, Int.reduceNeg, Int.reduceEq, Int.reduceToNat]
    | with_reducible refine know_of fun _ => ?_
    | (with_reducible refine does_then (clone_ints _ _ (by simp only [List.length_take]; omega) ?_))
    | (with_reducible refine does_then (clone_ints _ _ (by omega) ?_))
    | (with_reducible refine does_then (group_known _ _ _ ?_))
    | with_reducible refine ifD1 (by omega) ?_
    | with_reducible refine ifD0 (by omega) ?_
    | with_reducible refine ifE1 (by omega) ?_
    | with_reducible refine ifE0 (by omega) ?_
    | with_reducible refine ifN1 (by omega) ?_
    | with_reducible refine ifN0 (by omega) ?_
    | with_reducible refine ifD_of (fun _ => ?_) (fun _ => ?_)
    | with_reducible refine ifE_of (fun _ => ?_) (fun _ => ?_)
    | with_reducible refine ifN_of (fun _ => ?_) (fun _ => ?_)
    | with_reducible refine Go.V.if1 (by assumption) ?_
    | with_reducible refine Go.V.if0 (by assumption) ?_
    | with_reducible refine if_of (fun _ => ?_) (fun _ => ?_)
    | with_reducible refine s_of (idx_get _ _ _ (by omega) (by omega)) ?_
    | with_reducible refine s_of (idx_get _ _ _ (by omega) (by simp only [List.length_set, List.length_append, List.length_take, List.length_drop, List.length_reverse, List.length_singleton]; omega)) ?_
    | with_reducible refine s_of (map_get _ _ _ (by omega)) ?_
    | with_reducible refine s_of (map_get _ _ _ (by simp only [List.length_set]; omega)) ?_
    | with_reducible refine s_of (if_neg (by omega)) ?_
    | with_reducible refine s_of (if_pos (by omega)) ?_
    | with_reducible refine need_of (by omega) ?_
    | with_reducible refine nil_of (fun _ => ?_) ?_
    | with_reducible refine alt_of ?_ ?_
    | (with_reducible apply join_of; intro _ _)
    | with_reducible assumption)
  all_goals (simp (disch := omega) only [checkG, if_pos, if_neg] at h; first | exact h | (simpa [eI] using h))
theorem idxF_neg {α : Type} (p : α → Bool) : ∀ (l : List α) (i : Int), 0 ≤ i → decide (idxF p l i ≥ 0) = l.any p
  | [], i, _ => by simp [idxF]
  | x :: xs, i, hi => by
    rw [idxF]
    by_cases h : p x = true
    · rw [if_pos h]; simp [h]; omega
    · rw [if_neg h, idxF_neg p xs (i + 1) (by omega)]; simp [h]
theorem idxF_none {α : Type} (p : α → Bool) : ∀ (l : List α) (i : Int), 0 ≤ i → idxF p l i = -1 → ∀ x ∈ l, p x = false
  | [], i, _, _ => by simp
  | x :: xs, i, hi, h => by
    rw [idxF] at h
    by_cases hp : p x = true
    · rw [if_pos hp] at h; omega
    · rw [if_neg hp] at h
      intro y hy
      rcases List.mem_cons.1 hy with rfl | hy
      · simpa using hp
      · exact idxF_none p xs (i + 1) (by omega) h y hy
theorem idxF_some {α : Type} [Inhabited α] (p : α → Bool) : ∀ (l : List α) (i : Int), 0 ≤ i → idxF p l i ≠ -1 → ∃ k : Nat, idxF p l i = i + k ∧ k < l.length ∧ p (l.getD k default) = true ∧ ∀ x ∈ l.take k, p x = false
  | [], i, _, h => by simp [idxF] at h
  | x :: xs, i, hi, h => by
    rw [idxF] at h
    by_cases hp : p x = true
    · exact ⟨0, by rw [idxF, if_pos hp]; simp, by simp, by simpa using hp, by simp⟩
    · rw [if_neg hp] at h
      obtain ⟨k, h1, h2, h3, h4⟩ := idxF_some p xs (i + 1) (by omega) h
      refine ⟨k + 1, by rw [idxF, if_neg hp, h1]; omega, by simpa using h2, by simpa using h3, fun y hy => ?_⟩
      rw [List.take_succ_cons] at hy
      rcases List.mem_cons.1 hy with rfl | hy
      · simpa using hp
      · exact h4 y hy
theorem index_cnt (l : List Count) (g : FuncId) (p : Count → Bool) (Q : PV → Mem → Prop) (hg : ∀ c ∈ l, ∀ Q : PV → Mem → Prop, Q (vb (p c)) [] → Does Try.prog g [.agg [.sl (c.row.map eV), vi c.diff]] [] 0 Q) (h : Q (vi (idxF p l 0)) []) : Does Try.prog 98 [.sl (l.map eC), .fn g []] [] 0 Q := by
  refine does_of mixed Try.func98 rfl (by kernel_rfl) no (slots [(0, [0, 1, 7, 8])]) ?_
  simp only [Try.f98]
  repeat' (first
    | simp -implicitDefEqProofs only [go_sem, eC, Nat.reduceAdd, Nat.reduceEqDiff, Nat.reduceLT, Nat.reduceBEq, Nat.reduceLeDiff, Nat.reduceSub, Int.reduceLE, Int.reduceNeg, Int.reduceEq, Int.reduceToNat]
    | with_reducible refine know_of fun _ => ?_
    | with_reducible refine ifD1 (by omega) ?_
    | with_reducible refine ifD0 (by omega) ?_
    | with_reducible refine ifE1 (by omega) ?_
    | with_reducible refine ifE0 (by omega) ?_
    | with_reducible refine ifN1 (by omega) ?_
    | with_reducible refine ifN0 (by omega) ?_
    | with_reducible refine ifD_of (fun _ => ?_) (fun _ => ?_)
    | with_reducible refine ifE_of (fun _ => ?_) (fun _ => ?_)
    | with_reducible refine ifN_of (fun _ => ?_) (fun _ => ?_)
    | with_reducible refine Go.V.if1 (by assumption) ?_
    | with_reducible refine Go.V.if0 (by assumption) ?_
    | with_reducible refine if_of (fun _ => ?_) (fun _ => ?_)
    | with_reducible refine s_of (idx_get _ _ _ (by omega) (by omega)) ?_
    | with_reducible refine s_of (idx_get _ _ _ (by omega) (by simp only [List.length_set, List.length_append, List.length_take, List.length_drop, List.length_reverse, List.length_singleton]; omega)) ?_
    | with_reducible refine s_of (map_get _ _ _ (by omega)) ?_
    | with_reducible refine s_of (map_get _ _ _ (by simp only [List.length_set]; omega)) ?_
    | with_reducible refine s_of (if_neg (by omega)) ?_
    | with_reducible refine s_of (if_pos (by omega)) ?_
    | with_reducible refine need_of (by omega) ?_
    | with_reducible refine nil_of (fun _ => ?_) ?_
    | with_reducible refine alt_of ?_ ?_
    | (with_reducible apply join_of; intro _ _)
    | with_reducible assumption)
  refine loop_then (loop_ind (σ := Nat) (fun s => [(0, .sl (l.map eC)), (1, .fn g []), (7, vi l.length), (8, vi s)]) (fun s => []) (fun s => l.length - s) (fun s => s ≤ l.length ∧ idxF p (l.drop s) s = idxF p l 0) ?_ 0 ⟨Nat.zero_le _, rfl⟩)
  rintro X i ⟨hi, hQ⟩ ih
  try dsimp only at ih ⊢
  repeat' (first
    | simp -implicitDefEqProofs only [go_sem, eC, Int.toNat_natCast, Nat.reduceAdd, Nat.reduceEqDiff, Nat.reduceLT, Nat.reduceBEq, Nat.reduceLeDiff, Nat.reduceSub, Int.reduceLE, Int.reduceNeg, Int.reduceEq, Int.reduceToNat]
    | with_reducible refine know_of fun _ => ?_
    | (with_reducible refine does_then (hg _ (getD_mem' l i (by omega)) _ ?_))
    | with_reducible refine ifD1 (by omega) ?_
    | with_reducible refine ifD0 (by omega) ?_
    | with_reducible refine ifE1 (by omega) ?_
    | with_reducible refine ifE0 (by omega) ?_
    | with_reducible refine ifN1 (by omega) ?_
    | with_reducible refine ifN0 (by omega) ?_
    | with_reducible refine ifD_of (fun _ => ?_) (fun _ => ?_)
    | with_reducible refine ifE_of (fun _ => ?_) (fun _ => ?_)
    | with_reducible refine ifN_of (fun _ => ?_) (fun _ => ?_)
    | with_reducible refine Go.V.if1 (by assumption) ?_
    | with_reducible refine Go.V.if0 (by assumption) ?_
    | with_reducible refine if_of (fun _ => ?_) (fun _ => ?_)
    | with_reducible refine s_of (idx_get _ _ _ (by omega) (by omega)) ?_
    | with_reducible refine s_of (idx_get _ _ _ (by omega) (by simp only [List.length_set, List.length_append, List.length_take, List.length_drop, List.length_reverse, List.length_singleton]; omega)) ?_
    | with_reducible refine s_of (map_get _ _ _ (by omega)) ?_
    | with_reducible refine s_of (map_get _ _ _ (by simp only [List.length_set]; omega)) ?_
    | with_reducible refine s_of (if_neg (by omega)) ?_
    | with_reducible refine s_of (if_pos (by omega)) ?_
    | with_reducible refine need_of (by omega) ?_
    | with_reducible refine nil_of (fun _ => ?_) ?_
    | with_reducible refine alt_of ?_ ?_
    | (with_reducible apply join_of; intro _ _)
    | with_reducible assumption)
  · rw [drop_getD l i (by omega), idxF, if_pos (by assumption)] at hQ
    rw [← hQ] at h; exact h
  · rw [drop_getD l i (by omega), idxF, if_neg (by simp only [Bool.not_eq_true]; assumption)] at hQ
    rw [wnat i (by omega)]
    exact ih (i + 1) (by omega) ⟨by omega, by rw [← hQ]; rfl⟩
  · rw [List.drop_eq_nil_of_le (by omega)] at hQ
    rw [← hQ] at h; exact h
theorem index_cnt1 (l : List Count) (g : FuncId) (cs : List PV) (p : Count → Bool) (Q : PV → Mem → Prop) (hg : ∀ c ∈ l, ∀ Q : PV → Mem → Prop, Q (vb (p c)) [] → Does Try.prog g [.agg [.sl (c.row.map eV), vi c.diff], .cad cs] [] 0 Q) (h : Q (vi (idxF p l 0)) []) : Does Try.prog 98 [.sl (l.map eC), .fn g [.cad cs]] [] 0 Q := by
  refine does_of mixed Try.func98 rfl (by kernel_rfl) no (slots [(0, [0, 1, 7, 8])]) ?_
  simp only [Try.f98]
  repeat' (first
    | simp -implicitDefEqProofs only [go_sem, eC, Nat.reduceAdd, Nat.reduceEqDiff, Nat.reduceLT, Nat.reduceBEq, Nat.reduceLeDiff, Nat.reduceSub, Int.reduceLE, Int.reduceNeg, Int.reduceEq, Int.reduceToNat]
    | with_reducible refine know_of fun _ => ?_
    | with_reducible refine ifD1 (by omega) ?_
    | with_reducible refine ifD0 (by omega) ?_
    | with_reducible refine ifE1 (by omega) ?_
    | with_reducible refine ifE0 (by omega) ?_
    | with_reducible refine ifN1 (by omega) ?_
    | with_reducible refine ifN0 (by omega) ?_
    | with_reducible refine ifD_of (fun _ => ?_) (fun _ => ?_)
    | with_reducible refine ifE_of (fun _ => ?_) (fun _ => ?_)
    | with_reducible refine ifN_of (fun _ => ?_) (fun _ => ?_)
    | with_reducible refine Go.V.if1 (by assumption) ?_
    | with_reducible refine Go.V.if0 (by assumption) ?_
    | with_reducible refine if_of (fun _ => ?_) (fun _ => ?_)
    | with_reducible refine s_of (idx_get _ _ _ (by omega) (by omega)) ?_
    | with_reducible refine s_of (idx_get _ _ _ (by omega) (by simp only [List.length_set, List.length_append, List.length_take, List.length_drop, List.length_reverse, List.length_singleton]; omega)) ?_
    | with_reducible refine s_of (map_get _ _ _ (by omega)) ?_
    | with_reducible refine s_of (map_get _ _ _ (by simp only [List.length_set]; omega)) ?_
    | with_reducible refine s_of (if_neg (by omega)) ?_
    | with_reducible refine s_of (if_pos (by omega)) ?_
    | with_reducible refine need_of (by omega) ?_
    | with_reducible refine nil_of (fun _ => ?_) ?_
    | with_reducible refine alt_of ?_ ?_
    | (with_reducible apply join_of; intro _ _)
    | with_reducible assumption)
  refine loop_then (loop_ind (σ := Nat) (fun s => [(0, .sl (l.map eC)), (1, .fn g [.cad cs]), (7, vi l.length), (8, vi s)]) (fun s => []) (fun s => l.length - s) (fun s => s ≤ l.length ∧ idxF p (l.drop s) s = idxF p l 0) ?_ 0 ⟨Nat.zero_le _, rfl⟩)
  rintro X i ⟨hi, hQ⟩ ih
  try dsimp only at ih ⊢
  repeat' (first
    | simp -implicitDefEqProofs only [go_sem, eC, Int.toNat_natCast, Nat.reduceAdd, Nat.reduceEqDiff, Nat.reduceLT, Nat.reduceBEq, Nat.reduceLeDiff, Nat.reduceSub, Int.reduceLE, Int.reduceNeg, Int.reduceEq, Int.reduceToNat]
    | with_reducible refine know_of fun _ => ?_
    | (with_reducible refine does_then (hg _ (getD_mem' l i (by omega)) _ ?_))
    | with_reducible refine ifD1 (by omega) ?_
    | with_reducible refine ifD0 (by omega) ?_
    | with_reducible refine ifE1 (by omega) ?_
    | with_reducible refine ifE0 (by omega) ?_
    | with_reducible refine ifN1 (by omega) ?_
    | with_reducible refine ifN0 (by omega) ?_
    | with_reducible refine ifD_of (fun _ => ?_) (fun _ => ?_)
    | with_reducible refine ifE_of (fun _ => ?_) (fun _ => ?_)
    | with_reducible refine ifN_of (fun _ => ?_) (fun _ => ?_)
    | with_reducible refine Go.V.if1 (by assumption) ?_
    | with_reducible refine Go.V.if0 (by assumption) ?_
    | with_reducible refine if_of (fun _ => ?_) (fun _ => ?_)
    | with_reducible refine s_of (idx_get _ _ _ (by omega) (by omega)) ?_
    | with_reducible refine s_of (idx_get _ _ _ (by omega) (by simp only [List.length_set, List.length_append, List.length_take, List.length_drop, List.length_reverse, List.length_singleton]; omega)) ?_
    | with_reducible refine s_of (map_get _ _ _ (by omega)) ?_
    | with_reducible refine s_of (map_get _ _ _ (by simp only [List.length_set]; omega)) ?_
    | with_reducible refine s_of (if_neg (by omega)) ?_
    | with_reducible refine s_of (if_pos (by omega)) ?_
    | with_reducible refine need_of (by omega) ?_
    | with_reducible refine nil_of (fun _ => ?_) ?_
    | with_reducible refine alt_of ?_ ?_
    | (with_reducible apply join_of; intro _ _)
    | with_reducible assumption)
  · rw [drop_getD l i (by omega), idxF, if_pos (by assumption)] at hQ
    rw [← hQ] at h; exact h
  · rw [drop_getD l i (by omega), idxF, if_neg (by simp only [Bool.not_eq_true]; assumption)] at hQ
    rw [wnat i (by omega)]
    exact ih (i + 1) (by omega) ⟨by omega, by rw [← hQ]; rfl⟩
  · rw [List.drop_eq_nil_of_le (by omega)] at hQ
    rw [← hQ] at h; exact h
theorem contains_cnt (l : List Count) (g : FuncId) (cs : List PV) (p : Count → Bool) (Q : PV → Mem → Prop) (hg : ∀ c ∈ l, ∀ Q : PV → Mem → Prop, Q (vb (p c)) [] → Does Try.prog g [.agg [.sl (c.row.map eV), vi c.diff], .cad cs] [] 0 Q) (h : Q (vb (l.any p)) []) : Does Try.prog 56 [.sl (l.map eC), .fn g [.cad cs]] [] 0 Q := by
  refine does_of mixed Try.func56 rfl (by kernel_rfl) no (slots []) ?_
  simp only [Try.f56]
  repeat' (first
    | simp -implicitDefEqProofs only [go_sem, Nat.reduceAdd, Nat.reduceEqDiff, Nat.reduceLT, Nat.reduceBEq, Nat.reduceLeDiff, Nat.reduceSub, Int.reduceLE, Int.reduceNeg, Int.reduceEq, Int.reduceToNat]
    | with_reducible refine know_of fun _ => ?_
    | (with_reducible refine does_then (index_cnt1 _ _ _ p _ hg ?_))
    | with_reducible refine ifD1 (by omega) ?_
    | with_reducible refine ifD0 (by omega) ?_
    | with_reducible refine ifE1 (by omega) ?_
    | with_reducible refine ifE0 (by omega) ?_
    | with_reducible refine ifN1 (by omega) ?_
    | with_reducible refine ifN0 (by omega) ?_
    | with_reducible refine ifD_of (fun _ => ?_) (fun _ => ?_)
    | with_reducible refine ifE_of (fun _ => ?_) (fun _ => ?_)
    | with_reducible refine ifN_of (fun _ => ?_) (fun _ => ?_)
    | with_reducible refine Go.V.if1 (by assumption) ?_
    | with_reducible refine Go.V.if0 (by assumption) ?_
    | with_reducible refine if_of (fun _ => ?_) (fun _ => ?_)
    | with_reducible refine s_of (idx_get _ _ _ (by omega) (by omega)) ?_
    | with_reducible refine s_of (idx_get _ _ _ (by omega) (by simp only [List.length_set, List.length_append, List.length_take, List.length_drop, List.length_reverse, List.length_singleton]; omega)) ?_
    | with_reducible refine s_of (map_get _ _ _ (by omega)) ?_
    | with_reducible refine s_of (map_get _ _ _ (by simp only [List.length_set]; omega)) ?_
    | with_reducible refine s_of (if_neg (by omega)) ?_
    | with_reducible refine s_of (if_pos (by omega)) ?_
    | with_reducible refine need_of (by omega) ?_
    | with_reducible refine nil_of (fun _ => ?_) ?_
    | with_reducible refine alt_of ?_ ?_
    | (with_reducible apply join_of; intro _ _)
    | with_reducible assumption)
  all_goals (rw [idxF_neg _ _ _ (Int.le_refl _)]; exact h)
theorem filter_none {α : Type} (p : α → Bool) (l : List α) (h : ∀ x ∈ l, p x = false) : l.filter (fun x => !p x) = l := List.filter_eq_self.2 fun x hx => by rw [h x hx]; rfl
theorem filter_take_succ {α : Type} [Inhabited α] (p : α → Bool) (l : List α) (j : Nat) (h : j < l.length) : (l.take (j + 1)).filter (fun x => !p x) = (l.take j).filter (fun x => !p x) ++ (if p (l.getD j default) = true then [] else [l.getD j default]) := by
  rw [take_cons' l j h, List.filter_append]
  by_cases hp : p (l.getD j default) = true
  · rw [if_pos hp, List.filter_cons_of_neg (by rw [hp]; simp), List.filter_nil]
  · rw [if_neg hp, List.filter_cons_of_pos (by simpa using hp), List.filter_nil]
theorem set_kept {α : Type} [Inhabited α] (K l : List α) (c : α) (h : K.length < l.length) : (K ++ l.drop K.length).set K.length c = (K ++ [c]) ++ l.drop (K.length + 1) := by
  rw [List.set_append_right _ _ (Nat.le_refl _), Nat.sub_self, drop_getD l K.length h, List.set_cons_zero]; simp
theorem setC (l : List Count) (i : Nat) (r : List Val) (d : Int) : (l.map eC).set i [.sl (r.map eV), vi d] = (l.set i ⟨r, d⟩).map eC := by rw [List.map_set]; rfl
def lentG : FuncId → Bool := fun f => f == 141 || f == 108
theorem lentG_141 : lentG 141 = true := rfl
theorem lentG_108 : lentG 108 = true := rfl
theorem lentG_98 : lentG 98 = false := rfl
theorem lentG_142 : lentG 142 = false := rfl
theorem lentG_105 : lentG 105 = false := rfl
theorem lentG_106 : lentG 106 = false := rfl
theorem lentG_107 : lentG 107 = false := rfl
theorem lentG_109 : lentG 109 = false := rfl
theorem lentG_110 : lentG 110 = false := rfl
attribute [go_sem] lentG_141 lentG_108 lentG_98 lentG_142 lentG_105 lentG_106 lentG_107 lentG_109 lentG_110
theorem delete_cnt (l : List Count) (g : FuncId) (p : Count → Bool) (Q : PV → Mem → Prop) (hl : l.length ≤ 1000000) (hg : ∀ c ∈ l, ∀ Q : PV → Mem → Prop, Q (vb (p c)) [] → Does Try.prog g [.agg [.sl (c.row.map eV), vi c.diff]] [] 0 Q) (h0 : l.filter (fun x => !p x) = l → Q (.own 0) [.row 59 (l.map eC)]) (h : ∀ (es : List (List PV)) (k : Nat), k ≤ es.length → es.take k = (l.filter fun x => !p x).map eC → Q (.osl 0 0 k) [.row 59 es]) : Does Try.prog 141 [.own 0, .fn g []] [.row 59 (l.map eC)] 1 Q := by
  refine does_of mixed Try.func141 rfl (by kernel_rfl) no (slots [(0, [0, 1, 5, 6])]) ?_
  simp only [Try.f141]
  repeat' (first
    | simp -implicitDefEqProofs only [go_sem, eC, Nat.reduceAdd, Nat.reduceEqDiff, Nat.reduceLT, Nat.reduceBEq, Nat.reduceLeDiff, Nat.reduceSub, Int.reduceLE, Int.reduceNeg, Int.reduceEq, Int.reduceToNat]
    | with_reducible refine know_of fun _ => ?_
    | (with_reducible refine does_then (index_cnt _ _ p _ hg ?_))
    | with_reducible refine ifD1 (by omega) ?_
    | with_reducible refine ifD0 (by omega) ?_
    | with_reducible refine ifE1 (by omega) ?_
    | with_reducible refine ifE0 (by omega) ?_
    | with_reducible refine ifN1 (by omega) ?_
    | with_reducible refine ifN0 (by omega) ?_
    | with_reducible refine ifD_of (fun _ => ?_) (fun _ => ?_)
    | with_reducible refine ifE_of (fun _ => ?_) (fun _ => ?_)
    | with_reducible refine ifN_of (fun _ => ?_) (fun _ => ?_)
    | with_reducible refine Go.V.if1 (by assumption) ?_
    | with_reducible refine Go.V.if0 (by assumption) ?_
    | with_reducible refine if_of (fun _ => ?_) (fun _ => ?_)
    | with_reducible refine s_of (idx_get _ _ _ (by omega) (by omega)) ?_
    | with_reducible refine s_of (idx_get _ _ _ (by omega) (by simp only [List.length_set, List.length_append, List.length_take, List.length_drop, List.length_reverse, List.length_singleton]; omega)) ?_
    | with_reducible refine s_of (map_get _ _ _ (by omega)) ?_
    | with_reducible refine s_of (map_get _ _ _ (by simp only [List.length_set]; omega)) ?_
    | with_reducible refine s_of (if_neg (by omega)) ?_
    | with_reducible refine s_of (if_pos (by omega)) ?_
    | with_reducible refine need_of (by omega) ?_
    | with_reducible refine nil_of (fun _ => ?_) ?_
    | with_reducible refine alt_of ?_ ?_
    | (with_reducible apply join_of; intro _ _)
    | with_reducible assumption)
  · exact h0 (filter_none p l (idxF_none p l 0 (Int.le_refl _) (by assumption)))
  obtain ⟨k, hk, hkl, hp, hn⟩ := idxF_some p l 0 (Int.le_refl _) (by assumption)
  rw [show idxF p l 0 = (k : Int) by omega, wnat k (by omega)]
  have hf0 : (l.take (k + 1)).filter (fun x => !p x) = l.take k := by rw [filter_take_succ p l k hkl, if_pos hp, List.append_nil, filter_none p _ hn]
  rw [show l.map eC = ((l.take (k + 1)).filter (fun x => !p x) ++ l.drop k).map eC by rw [hf0, List.take_append_drop]]
  refine loop_then (loop_ind (σ := Nat × Nat) (fun s => [(0, .own 0), (1, .fn g []), (5, vi s.2), (6, vi s.1)]) (fun s => [.row 59 (((l.take s.1).filter (fun x => !p x) ++ l.drop s.2).map eC)]) (fun s => l.length - s.1) (fun s => s.2 < s.1 ∧ s.1 ≤ l.length ∧ ((l.take s.1).filter (fun x => !p x)).length = s.2) ?_ (k + 1, k) ⟨by dsimp only; omega, by dsimp only; omega, by dsimp only; rw [hf0, List.length_take]; omega⟩)
  rintro X ⟨j, i⟩ ⟨hi, hj, hs⟩ ih
  try dsimp only at ih ⊢
  dsimp only at hi hj hs
  have hL : ∃ L, L = List.filter (fun x => !p x) (List.take j l) ++ List.drop i l := ⟨_, rfl⟩
  obtain ⟨L, hL⟩ := hL
  rw [← hL]
  have hlen : L.length = l.length := by rw [hL, List.length_append, hs, List.length_drop]; omega
  have hget : j < l.length → L.getD j default = l.getD j default := by
    intro hj2
    rw [hL, List.getD_eq_getElem?_getD, List.getElem?_append_right (by omega), hs, List.getElem?_drop, show i + (j - i) = j by omega, List.getD_eq_getElem?_getD]
  repeat' (first
    | rw [setC]
    | simp -implicitDefEqProofs only [go_sem, eC, Int.toNat_natCast, Nat.reduceAdd, Nat.reduceEqDiff, Nat.reduceLT, Nat.reduceBEq, Nat.reduceLeDiff, Nat.reduceSub, Int.reduceLE, Int.reduceNeg, Int.reduceEq, Int.reduceToNat]
    | with_reducible refine know_of fun _ => ?_
    | (with_reducible refine does_then (hg _ (by rw [hget (by omega)]; exact getD_mem' _ _ (by omega)) _ ?_))
    | with_reducible refine ifD1 (by omega) ?_
    | with_reducible refine ifD0 (by omega) ?_
    | with_reducible refine ifE1 (by omega) ?_
    | with_reducible refine ifE0 (by omega) ?_
    | with_reducible refine ifN1 (by omega) ?_
    | with_reducible refine ifN0 (by omega) ?_
    | with_reducible refine ifD_of (fun _ => ?_) (fun _ => ?_)
    | with_reducible refine ifE_of (fun _ => ?_) (fun _ => ?_)
    | with_reducible refine ifN_of (fun _ => ?_) (fun _ => ?_)
    | with_reducible refine Go.V.if1 (by assumption) ?_
    | with_reducible refine Go.V.if0 (by assumption) ?_
    | with_reducible refine if_of (fun _ => ?_) (fun _ => ?_)
    | with_reducible refine s_of (idx_get _ _ _ (by omega) (by omega)) ?_
    | with_reducible refine s_of (idx_get _ _ _ (by omega) (by simp only [List.length_set, List.length_append, List.length_take, List.length_drop, List.length_reverse, List.length_singleton]; omega)) ?_
    | with_reducible refine s_of (map_get _ _ _ (by omega)) ?_
    | with_reducible refine s_of (map_get _ _ _ (by simp only [List.length_set]; omega)) ?_
    | with_reducible refine s_of (if_neg (by omega)) ?_
    | with_reducible refine s_of (if_pos (by omega)) ?_
    | with_reducible refine need_of (by omega) ?_
    | with_reducible refine nil_of (fun _ => ?_) ?_
    | with_reducible refine alt_of ?_ ?_
    | (with_reducible apply join_of; intro _ _)
    | with_reducible assumption)
  · rename_i hpL _
    rw [wnat j (by omega)]
    rw [hget (by omega)] at hpL
    have ih1 := ih (j + 1, i) (by dsimp only; omega) ⟨by dsimp only; omega, by dsimp only; omega, by dsimp only; rw [filter_take_succ p l j (by omega), if_pos hpL, List.append_nil]; exact hs⟩
    dsimp only at ih1
    rw [filter_take_succ p l j (by omega), if_pos hpL, List.append_nil, ← hL] at ih1
    exact ih1
  · rename_i hpL _ _
    rw [wnat j (by omega), wnat i (by omega)]
    rw [hget (by omega)] at hpL ⊢
    have e1 : L.set i (l.getD j default) = (l.take (j + 1)).filter (fun x => !p x) ++ l.drop (i + 1) := by
      rw [hL, ← hs, set_kept _ _ _ (by omega), filter_take_succ p l j (by omega), if_neg (by rw [hpL]; exact Bool.false_ne_true)]
    have ih1 := ih (j + 1, i + 1) (by dsimp only; omega) ⟨by dsimp only; omega, by dsimp only; omega, by dsimp only; rw [filter_take_succ p l j (by omega), if_neg (by rw [hpL]; exact Bool.false_ne_true), List.length_append, hs]; rfl⟩
    dsimp only at ih1
    rw [← e1] at ih1
    exact ih1
  · have e1 : L.take i = l.filter (fun x => !p x) := by
      rw [hL, ← hs, List.take_left, List.take_of_length_le (by omega)]
    refine need_of (by simp only [List.length_take, List.length_map, List.length_replicate, List.length_drop]; omega) ?_
    simp -implicitDefEqProofs only [go_sem]
    refine h _ _ (by simp only [List.length_append, List.length_take, List.length_map, List.length_replicate, List.length_drop]; omega) ?_
    rw [List.take_append_of_le_length (by simp only [List.length_take, List.length_map]; omega), List.take_take, Int.toNat_natCast, Nat.min_self, ← List.map_take, e1]
end Go.V
namespace Go.V
open Go Go.RowKit Go.Proofs
set_option maxRecDepth 100000
set_option maxHeartbeats 4000000
set_option linter.unusedVariables false
set_option linter.unusedSimpArgs false
theorem does_cut {P : Program} {f : FuncId} {args : List PV} {e : TypeId} {Q : PV → Mem → Prop} (h : Does P f args [] 0 (fun r m' => Q r m' ∨ ∃ es k, k ≤ es.length ∧ r = .osl 0 0 k ∧ m' = [.row e es] ∧ Q (.own 0) [.row e (es.take k)])) : Does P f args [] 0 Q := by
  refine ⟨h.1, fun M w vs ρ hM hm hl hr => (h.run hM hm hl hr).mono fun en w' he => ?_⟩
  obtain ⟨v, r, m', ρ', rfl, hq, hf, hrep, hmem, hft, hnew⟩ := he
  rcases hq with hq | ⟨es, k, hk, rfl, rfl, hq⟩
  · exact .inl ⟨v, r, m', ρ', rfl, hq, hf, hrep, hmem, hft, hnew⟩
  have one : ∀ {b : Nat} {x : Blk} {y : Blk}, ([y] : Mem)[b]? = some x → b = 0 ∧ x = y := by
    intro b x y hx
    cases b with
    | zero => simp at hx; exact ⟨rfl, hx.symm⟩
    | succ b => simp at hx
  have lv : ∀ {b : Nat} {y : Blk}, Live [y] b → b = 0 := fun ⟨x, hx, _⟩ => (one hx).1
  cases hrep with
  | im hi => cases hi
  | osl h1 h2 => omega
  | osl0 h1 h2 h3 =>
    rename_i n c A e' es'
    simp at h1
    obtain ⟨rfl, rfl⟩ := h1
    have hb := hmem.blk 0 (.row e es) rfl
    rw [h3] at hb
    have e1 : own1 (.slice A k c) = own1 (ρ' 0) := by rw [h3]; cases A <;> rfl
    have l0 : Live [.row e es] 0 := ⟨_, rfl, by simp⟩
    have hM2 : ∀ q, Mine M [.row e (es.take k)] (fun _ => .slice A k c) q → Mine M [.row e es] ρ' q := fun q hq => hq.imp id fun ⟨b, hb, ho⟩ => ⟨0, l0, by rw [← e1]; exact ho⟩
    refine .inl ⟨_, .own 0, [.row e (es.take k)], fun _ => .slice A k c, rfl, hq, hf, .own (e := e) (es := es.take k) rfl, ⟨fun b x hx => ?_, fun b b' k hb hb' _ _ => (lv hb).trans (lv hb').symm, fun b q _ hk => hmem.out 0 q l0 (by rw [← e1]; exact hk)⟩, ⟨by simp, fun b cs hb => by simp at hb, fun b e es hb => by simp at hb, fun b hb => by simp at hb⟩, fun b q _ hk => hnew 0 q l0 (by rw [← e1]; exact hk)⟩
    obtain ⟨rfl, rfl⟩ := one hx
    cases hb with
    | row hi hzz hzzs h0 hby hlen' ho hsz hf hx' h1 =>
      rename_i xs i z'
      obtain rfl : n = es.length := by
        rcases ho.2 with ⟨e1, e2⟩ | ⟨g, cap, cur, e1, _⟩
        · cases e1; exact e2.symm
        · cases e1; rfl
      have ho' := ownsRow_take ho hk
      have hln : (es.take k).length = k := by rw [List.length_take]; omega
      refine .row (xs := xs.take (k * i.size)) hi hzz hzzs h0 hby (by omega) (by rw [hln]; exact ho') (fun x hx => hsz x (List.mem_of_mem_take hx)) (fun hf0 x hx => hf hf0 x (List.mem_of_mem_take hx)) (fun q j x p hq hj => ?_) (fun u hu => h1 u (List.mem_of_mem_take hu))
      have hqk : q < k := by have := lt_of_get hq; omega
      rw [List.getElem?_take, if_pos hqk] at hq
      obtain ⟨u, hu, hp⟩ := hx' q j x p hq hj
      have hj2 : j < i.size := by rw [← hsz x (List.mem_of_getElem? hq)]; exact lt_of_get hj
      have hlt : q * i.size + j < k * i.size := by
        have := Nat.mul_le_mul_right i.size (show q + 1 ≤ k by omega)
        rw [Nat.add_mul, Nat.one_mul] at this; omega
      exact ⟨u, by rw [List.getElem?_take, if_pos hlt]; exact hu, hp.move (Mv.refl _ _) (fun q _ h => hM2 q h)⟩
def someG (l : List Count) : List Count := l.filter fun c => !decide (c.diff ≤ 0)
def onceG (r : List Val) : List Count := [⟨r, 1⟩]
theorem some_le (r : List Val) (d : Int) (Q : PV → Mem → Prop)  (h : Q (vb (decide (d ≤ 0))) []) : Does Try.prog 143 [.agg [.sl (r.map eV), vi d]] [] 0 Q := by
  refine does_of mixed Try.func143 rfl (by kernel_rfl) no (slots []) ?_
  simp only [Try.f143]
  repeat' (first
    | simp -implicitDefEqProofs only [go_sem, Nat.reduceAdd, Nat.reduceEqDiff, Nat.reduceLT, Nat.reduceBEq, Nat.reduceLeDiff, Nat.reduceSub, Int.reduceLE, Int.reduceNeg, Int.reduceEq, Int.reduceToNat]
    | with_reducible refine know_of fun _ => ?_
    | with_reducible refine ifD1 (by omega) ?_
    | with_reducible refine ifD0 (by omega) ?_
    | with_reducible refine ifE1 (by omega) ?_
    | with_reducible refine ifE0 (by omega) ?_
    | with_reducible refine ifN1 (by omega) ?_
    | with_reducible refine ifN0 (by omega) ?_
    | with_reducible refine ifD_of (fun _ => ?_) (fun _ => ?_)
    | with_reducible refine ifE_of (fun _ => ?_) (fun _ => ?_)
    | with_reducible refine ifN_of (fun _ => ?_) (fun _ => ?_)
    | with_reducible refine Go.V.if1 (by assumption) ?_
    | with_reducible refine Go.V.if0 (by assumption) ?_
    | with_reducible refine if_of (fun _ => ?_) (fun _ => ?_)
    | with_reducible refine s_of (idx_get _ _ _ (by omega) (by omega)) ?_
    | with_reducible refine s_of (idx_get _ _ _ (by omega) (by simp only [List.length_set, List.length_append, List.length_take, List.length_drop, List.length_reverse, List.length_singleton]; omega)) ?_
    | with_reducible refine s_of (map_get _ _ _ (by omega)) ?_
    | with_reducible refine s_of (map_get _ _ _ (by simp only [List.length_set]; omega)) ?_
    | with_reducible refine s_of (if_neg (by omega)) ?_
    | with_reducible refine s_of (if_pos (by omega)) ?_
    | with_reducible refine need_of (by omega) ?_
    | with_reducible refine nil_of (fun _ => ?_) ?_
    | with_reducible refine alt_of ?_ ?_
    | (with_reducible apply join_of; intro _ _)
    | with_reducible assumption)
  all_goals first | exact h | simpa using h
theorem group_some (l : List Count) (Q : PV → Mem → Prop) (hl : l.length ≤ 1000000) (h : Q (.own 0) [.row 59 ((someG l).map eC)]) : Does Try.prog 105 [.sl (l.map eC)] [] 0 Q := by
  refine does_cut (e := 59) ?_
  refine does_of mixed Try.func105 rfl (by kernel_rfl) lentG (slots []) ?_
  simp only [Try.f105]
  repeat' (first
    | simp -implicitDefEqProofs only [go_sem, eC, Nat.reduceAdd, Nat.reduceEqDiff, Nat.reduceLT, Nat.reduceBEq, Nat.reduceLeDiff, Nat.reduceSub, Int.reduceLE, Int.reduceNeg, Int.reduceEq, Int.reduceToNat]
    | with_reducible refine know_of fun _ => ?_
    | (with_reducible refine does_then (clone_count _ _ (by omega) ?_))
    | (with_reducible refine does_then (delete_cnt _ _ (fun c => decide (c.diff ≤ 0)) _ (by omega) (fun c _ Q hQ => some_le _ _ _ hQ) (fun hh => ?_) (fun es k hk he => ?_)))
    | with_reducible refine ifD1 (by omega) ?_
    | with_reducible refine ifD0 (by omega) ?_
    | with_reducible refine ifE1 (by omega) ?_
    | with_reducible refine ifE0 (by omega) ?_
    | with_reducible refine ifN1 (by omega) ?_
    | with_reducible refine ifN0 (by omega) ?_
    | with_reducible refine ifD_of (fun _ => ?_) (fun _ => ?_)
    | with_reducible refine ifE_of (fun _ => ?_) (fun _ => ?_)
    | with_reducible refine ifN_of (fun _ => ?_) (fun _ => ?_)
    | with_reducible refine Go.V.if1 (by assumption) ?_
    | with_reducible refine Go.V.if0 (by assumption) ?_
    | with_reducible refine if_of (fun _ => ?_) (fun _ => ?_)
    | with_reducible refine s_of (idx_get _ _ _ (by omega) (by omega)) ?_
    | with_reducible refine s_of (idx_get _ _ _ (by omega) (by simp only [List.length_set, List.length_append, List.length_take, List.length_drop, List.length_reverse, List.length_singleton]; omega)) ?_
    | with_reducible refine s_of (map_get _ _ _ (by omega)) ?_
    | with_reducible refine s_of (map_get _ _ _ (by simp only [List.length_set]; omega)) ?_
    | with_reducible refine s_of (if_neg (by omega)) ?_
    | with_reducible refine s_of (if_pos (by omega)) ?_
    | with_reducible refine need_of (by omega) ?_
    | with_reducible refine nil_of (fun _ => ?_) ?_
    | with_reducible refine alt_of ?_ ?_
    | (with_reducible apply join_of; intro _ _)
    | with_reducible assumption)
  · refine .inl ?_
    unfold someG at h
    rw [hh] at h; exact h
  · exact .inr ⟨es, k, hk, rfl, rfl, by rw [he]; exact h⟩
theorem group_once (r : List Val) (Q : PV → Mem → Prop) (hl : r.length ≤ 2000000) (h : Q (.own 0) [.row 59 ((onceG r).map eC)]) : Does Try.prog 110 [.sl (r.map eV)] [] 0 Q := by
  refine does_of mixed Try.func110 rfl (by kernel_rfl) no (slots []) ?_
  simp only [Try.f110]
  repeat' (first
    | simp -implicitDefEqProofs only [go_sem, eC, Nat.reduceAdd, Nat.reduceEqDiff, Nat.reduceLT, Nat.reduceBEq, Nat.reduceLeDiff, Nat.reduceSub, Int.reduceLE, Int.reduceNeg, Int.reduceEq, Int.reduceToNat]
    | with_reducible refine know_of fun _ => ?_
    | (with_reducible refine does_then (clone_row _ _ (by omega) ?_))
    | with_reducible refine ifD1 (by omega) ?_
    | with_reducible refine ifD0 (by omega) ?_
    | with_reducible refine ifE1 (by omega) ?_
    | with_reducible refine ifE0 (by omega) ?_
    | with_reducible refine ifN1 (by omega) ?_
    | with_reducible refine ifN0 (by omega) ?_
    | with_reducible refine ifD_of (fun _ => ?_) (fun _ => ?_)
    | with_reducible refine ifE_of (fun _ => ?_) (fun _ => ?_)
    | with_reducible refine ifN_of (fun _ => ?_) (fun _ => ?_)
    | with_reducible refine Go.V.if1 (by assumption) ?_
    | with_reducible refine Go.V.if0 (by assumption) ?_
    | with_reducible refine if_of (fun _ => ?_) (fun _ => ?_)
    | with_reducible refine s_of (idx_get _ _ _ (by omega) (by omega)) ?_
    | with_reducible refine s_of (idx_get _ _ _ (by omega) (by simp only [List.length_set, List.length_append, List.length_take, List.length_drop, List.length_reverse, List.length_singleton]; omega)) ?_
    | with_reducible refine s_of (map_get _ _ _ (by omega)) ?_
    | with_reducible refine s_of (map_get _ _ _ (by simp only [List.length_set]; omega)) ?_
    | with_reducible refine s_of (if_neg (by omega)) ?_
    | with_reducible refine s_of (if_pos (by omega)) ?_
    | with_reducible refine need_of (by omega) ?_
    | with_reducible refine nil_of (fun _ => ?_) ?_
    | with_reducible refine alt_of ?_ ?_
    | (with_reducible apply join_of; intro _ _)
    | with_reducible assumption)
  all_goals first | exact h | simpa using h
def strE : ByteArray := ⟨#[]⟩
theorem row_Join1 (a : List Val) (n : Int) (Q : PV → Mem → Prop) (ha : a.length ≤ 1000000) (h : Q (.own 0) [.row 47 ((a ++ [(⟨0, n, strE⟩ : Val)]).map eV)]) : Does Try.prog 133 [.sl [[.sl (a.map eV)], [.sl [[vi 0, vi n, vs strE]]]]] [] 0 Q := row_Join a [⟨0, n, strE⟩] Q ha (by simp) h
def countG (key : List Val) (l : List Count) : List Count × Int := if (sumW (l.map (·.diff)) 0).2 ≠ 0 ∨ (sumW (l.map (·.diff)) 0).1 = 0 then ([], (sumW (l.map (·.diff)) 0).2) else (onceG (key ++ [⟨0, (sumW (l.map (·.diff)) 0).1, strE⟩]), 0)
def colE (col : Int) : List Count → Int
  | [] => 0
  | c :: l => if col < 0 ∨ (c.row.length : Int) ≤ col then 9 else if (c.row.getD col.toNat default).kind ≠ 0 then 80 else colE col l
def valsG (col : Int) (l : List Count) : List Int := l.map fun c => (c.row.getD col.toNat default).int
def sumG (key : List Val) (col : Int) (l : List Count) : List Count × Int := if colE col l ≠ 0 then ([], colE col l) else if (dotW (l.map (·.diff)) (valsG col l) 0).2 ≠ 0 then ([], (dotW (l.map (·.diff)) (valsG col l) 0).2) else (onceG (key ++ [⟨0, (dotW (l.map (·.diff)) (valsG col l) 0).1, strE⟩]), 0)
def minI (a b : Int) : Int := if b < a then b else a
def topG : Int → List Count → List Count
  | _, [] => []
  | n, c :: l => if minI c.diff n = 0 then [] else ⟨c.row, minI c.diff n⟩ :: topG (n - minI c.diff n) l
theorem valsG_len (col : Int) (l : List Count) : (valsG col l).length = l.length := List.length_map ..
theorem diffs_step (l : List Count) (i : Nat) (h : i < l.length) : ((l.take i).map (·.diff)).map eI ++ [[vi (l.getD i default).diff]] = ((l.take (i + 1)).map (·.diff)).map eI := by rw [take_cons' l i h]; simp [eI]
theorem vals_step (col : Int) (l : List Count) (i : Nat) (h : i < l.length) : (valsG col (l.take i)).map eI ++ [[vi ((l.getD i default).row.getD col.toNat default).int]] = (valsG col (l.take (i + 1))).map eI := by rw [take_cons' l i h]; simp [eI, valsG]
theorem group_count (key : List Val) (l : List Count) (Q : PV → Mem → Prop) (hk : key.length ≤ 1000000) (hl : l.length ≤ 1000000) (h : Q (.tup [.own 0, vi (countG key l).2]) [.row 59 ((countG key l).1.map eC)]) : Does Try.prog 106 [.sl (key.map eV), .sl (l.map eC)] [] 0 Q := by
  refine does_of mixed Try.func106 rfl (by kernel_rfl) no (slots [(0, [0, 6, 11, 12, 13])]) ?_
  simp only [Try.f106]
  repeat' (first
    | simp -implicitDefEqProofs only [go_sem, eC, Nat.reduceAdd, Nat.reduceEqDiff, Nat.reduceLT, Nat.reduceBEq, Nat.reduceLeDiff, Nat.reduceSub, Int.reduceLE, Int.reduceNeg, Int.reduceEq, Int.reduceToNat]
    | with_reducible refine know_of fun _ => ?_
    | with_reducible refine ifD1 (by omega) ?_
    | with_reducible refine ifD0 (by omega) ?_
    | with_reducible refine ifE1 (by omega) ?_
    | with_reducible refine ifE0 (by omega) ?_
    | with_reducible refine ifN1 (by omega) ?_
    | with_reducible refine ifN0 (by omega) ?_
    | with_reducible refine ifD_of (fun _ => ?_) (fun _ => ?_)
    | with_reducible refine ifE_of (fun _ => ?_) (fun _ => ?_)
    | with_reducible refine ifN_of (fun _ => ?_) (fun _ => ?_)
    | with_reducible refine Go.V.if1 (by assumption) ?_
    | with_reducible refine Go.V.if0 (by assumption) ?_
    | with_reducible refine if_of (fun _ => ?_) (fun _ => ?_)
    | with_reducible refine s_of (idx_get _ _ _ (by omega) (by omega)) ?_
    | with_reducible refine s_of (idx_get _ _ _ (by omega) (by simp only [List.length_set, List.length_append, List.length_take, List.length_drop, List.length_reverse, List.length_singleton]; omega)) ?_
    | with_reducible refine s_of (map_get _ _ _ (by omega)) ?_
    | with_reducible refine s_of (map_get _ _ _ (by simp only [List.length_set]; omega)) ?_
    | with_reducible refine s_of (if_neg (by omega)) ?_
    | with_reducible refine s_of (if_pos (by omega)) ?_
    | with_reducible refine need_of (by omega) ?_
    | with_reducible refine nil_of (fun _ => ?_) ?_
    | with_reducible refine alt_of ?_ ?_
    | (with_reducible apply join_of; intro _ _)
    | with_reducible assumption)
  refine loop_then (loop_ind (σ := Nat) (fun s => [(0, .sl (key.map eV)), (6, .own 0), (11, .sl (l.map eC)), (12, vi l.length), (13, vi s)]) (fun s => [.row 3 (((l.take s).map (·.diff)).map eI)]) (fun s => l.length - s) (fun s => s ≤ l.length) ?_ 0 (Nat.zero_le _))
  rintro X i hi ih
  try dsimp only at ih ⊢
  repeat' (first
    | refine need_of (by simp only [valsG_len, List.length_take, List.length_append, List.length_map, List.length_singleton]; omega) ?_
    | simp -implicitDefEqProofs only [go_sem, eC, Int.toNat_natCast, Nat.reduceAdd, Nat.reduceEqDiff, Nat.reduceLT, Nat.reduceBEq, Nat.reduceLeDiff, Nat.reduceSub, Int.reduceLE, Int.reduceNeg, Int.reduceEq, Int.reduceToNat]
    | with_reducible refine know_of fun _ => ?_
    | (with_reducible refine does_then (weigh_Sum _ _ ?_))
    | (with_reducible refine does_then (row_Join1 _ _ _ (by omega) ?_))
    | (with_reducible refine does_then (group_once _ _ (by simp only [List.length_append, List.length_singleton]; omega) ?_))
    | with_reducible refine ifD1 (by omega) ?_
    | with_reducible refine ifD0 (by omega) ?_
    | with_reducible refine ifE1 (by omega) ?_
    | with_reducible refine ifE0 (by omega) ?_
    | with_reducible refine ifN1 (by omega) ?_
    | with_reducible refine ifN0 (by omega) ?_
    | with_reducible refine ifD_of (fun _ => ?_) (fun _ => ?_)
    | with_reducible refine ifE_of (fun _ => ?_) (fun _ => ?_)
    | with_reducible refine ifN_of (fun _ => ?_) (fun _ => ?_)
    | with_reducible refine Go.V.if1 (by assumption) ?_
    | with_reducible refine Go.V.if0 (by assumption) ?_
    | with_reducible refine if_of (fun _ => ?_) (fun _ => ?_)
    | with_reducible refine s_of (idx_get _ _ _ (by omega) (by omega)) ?_
    | with_reducible refine s_of (idx_get _ _ _ (by omega) (by simp only [List.length_set, List.length_append, List.length_take, List.length_drop, List.length_reverse, List.length_singleton]; omega)) ?_
    | with_reducible refine s_of (map_get _ _ _ (by omega)) ?_
    | with_reducible refine s_of (map_get _ _ _ (by simp only [List.length_set]; omega)) ?_
    | with_reducible refine s_of (if_neg (by omega)) ?_
    | with_reducible refine s_of (if_pos (by omega)) ?_
    | with_reducible refine need_of (by omega) ?_
    | with_reducible refine nil_of (fun _ => ?_) ?_
    | with_reducible refine alt_of ?_ ?_
    | (with_reducible apply join_of; intro _ _)
    | with_reducible assumption)
  · rw [wnat i (by omega), diffs_step l i (by omega)]; exact ih (i + 1) (by omega) (by omega)
  all_goals (obtain rfl : i = l.length := by omega)
  all_goals rw [List.take_length] at *
  all_goals (simp (disch := first | assumption | omega) only [countG, if_pos, if_neg] at h; exact h)
theorem group_sum (key : List Val) (col : Int) (l : List Count) (Q : PV → Mem → Prop) (hk : key.length ≤ 1000000) (hl : l.length ≤ 1000000) (h : Q (.tup [.own 0, vi (sumG key col l).2]) [.row 59 ((sumG key col l).1.map eC)]) : Does Try.prog 107 [.sl (key.map eV), vi col, .sl (l.map eC)] [] 0 Q := by
  refine does_of mixed Try.func107 rfl (by kernel_rfl) no (slots [(0, [0, 1, 8, 9, 14, 15, 16])]) ?_
  simp only [Try.f107]
  repeat' (first
    | simp -implicitDefEqProofs only [go_sem, eC, Nat.reduceAdd, Nat.reduceEqDiff, Nat.reduceLT, Nat.reduceBEq, Nat.reduceLeDiff, Nat.reduceSub, Int.reduceLE, Int.reduceNeg, Int.reduceEq, Int.reduceToNat]
    | with_reducible refine know_of fun _ => ?_
    | with_reducible refine ifD1 (by omega) ?_
    | with_reducible refine ifD0 (by omega) ?_
    | with_reducible refine ifE1 (by omega) ?_
    | with_reducible refine ifE0 (by omega) ?_
    | with_reducible refine ifN1 (by omega) ?_
    | with_reducible refine ifN0 (by omega) ?_
    | with_reducible refine ifD_of (fun _ => ?_) (fun _ => ?_)
    | with_reducible refine ifE_of (fun _ => ?_) (fun _ => ?_)
    | with_reducible refine ifN_of (fun _ => ?_) (fun _ => ?_)
    | with_reducible refine Go.V.if1 (by assumption) ?_
    | with_reducible refine Go.V.if0 (by assumption) ?_
    | with_reducible refine if_of (fun _ => ?_) (fun _ => ?_)
    | with_reducible refine s_of (idx_get _ _ _ (by omega) (by omega)) ?_
    | with_reducible refine s_of (idx_get _ _ _ (by omega) (by simp only [List.length_set, List.length_append, List.length_take, List.length_drop, List.length_reverse, List.length_singleton]; omega)) ?_
    | with_reducible refine s_of (map_get _ _ _ (by omega)) ?_
    | with_reducible refine s_of (map_get _ _ _ (by simp only [List.length_set]; omega)) ?_
    | with_reducible refine s_of (if_neg (by omega)) ?_
    | with_reducible refine s_of (if_pos (by omega)) ?_
    | with_reducible refine need_of (by omega) ?_
    | with_reducible refine nil_of (fun _ => ?_) ?_
    | with_reducible refine alt_of ?_ ?_
    | (with_reducible apply join_of; intro _ _)
    | with_reducible assumption)
  refine loop_then (loop_ind (σ := Nat) (fun s => [(0, .sl (key.map eV)), (1, vi col), (8, .own 0), (9, .own 1), (14, .sl (l.map eC)), (15, vi l.length), (16, vi s)]) (fun s => [.row 3 (((l.take s).map (·.diff)).map eI), .row 3 ((valsG col (l.take s)).map eI)]) (fun s => l.length - s) (fun s => s ≤ l.length ∧ colE col (l.drop s) = colE col l) ?_ 0 ⟨Nat.zero_le _, rfl⟩)
  rintro X i ⟨hi, hc⟩ ih
  try dsimp only at ih ⊢
  repeat' (first
    | refine need_of (by simp only [valsG_len, List.length_take, List.length_append, List.length_map, List.length_singleton]; omega) ?_
    | simp -implicitDefEqProofs only [go_sem, eC, eV, Int.toNat_natCast, Nat.reduceAdd, Nat.reduceEqDiff, Nat.reduceLT, Nat.reduceBEq, Nat.reduceLeDiff, Nat.reduceSub, Int.reduceLE, Int.reduceNeg, Int.reduceEq, Int.reduceToNat]
    | with_reducible refine know_of fun _ => ?_
    | (with_reducible refine does_then (weigh_Dot _ _ _ (by rw [valsG_len, List.length_map]) ?_))
    | (with_reducible refine does_then (row_Join1 _ _ _ (by omega) ?_))
    | (with_reducible refine does_then (group_once _ _ (by simp only [List.length_append, List.length_singleton]; omega) ?_))
    | with_reducible refine ifD1 (by omega) ?_
    | with_reducible refine ifD0 (by omega) ?_
    | with_reducible refine ifE1 (by omega) ?_
    | with_reducible refine ifE0 (by omega) ?_
    | with_reducible refine ifN1 (by omega) ?_
    | with_reducible refine ifN0 (by omega) ?_
    | with_reducible refine ifD_of (fun _ => ?_) (fun _ => ?_)
    | with_reducible refine ifE_of (fun _ => ?_) (fun _ => ?_)
    | with_reducible refine ifN_of (fun _ => ?_) (fun _ => ?_)
    | with_reducible refine Go.V.if1 (by assumption) ?_
    | with_reducible refine Go.V.if0 (by assumption) ?_
    | with_reducible refine if_of (fun _ => ?_) (fun _ => ?_)
    | with_reducible refine s_of (idx_get _ _ _ (by omega) (by omega)) ?_
    | with_reducible refine s_of (idx_get _ _ _ (by omega) (by simp only [List.length_set, List.length_append, List.length_take, List.length_drop, List.length_reverse, List.length_singleton]; omega)) ?_
    | with_reducible refine s_of (map_get _ _ _ (by omega)) ?_
    | with_reducible refine s_of (map_get _ _ _ (by simp only [List.length_set]; omega)) ?_
    | with_reducible refine s_of (if_neg (by omega)) ?_
    | with_reducible refine s_of (if_pos (by omega)) ?_
    | with_reducible refine need_of (by omega) ?_
    | with_reducible refine nil_of (fun _ => ?_) ?_
    | with_reducible refine alt_of ?_ ?_
    | (with_reducible apply join_of; intro _ _)
    | with_reducible assumption)
  · rw [drop_getD l i (by omega), colE, if_pos (by omega)] at hc
    rw [sumG, ← hc, if_pos (by decide)] at h; exact h
  · rw [drop_getD l i (by omega), colE, if_pos (by omega)] at hc
    rw [sumG, ← hc, if_pos (by decide)] at h; exact h
  · rw [drop_getD l i (by omega), colE, if_neg (by omega), if_pos (by assumption)] at hc
    rw [sumG, ← hc, if_pos (by decide)] at h; exact h
  · rw [drop_getD l i (by omega), colE, if_neg (by omega), if_neg (by omega)] at hc
    rw [wnat i (by omega), diffs_step l i (by omega), vals_step col l i (by omega)]; exact ih (i + 1) (by omega) ⟨by omega, hc⟩
  all_goals (obtain rfl : i = l.length := by omega)
  all_goals rw [List.drop_length, colE] at hc
  all_goals rw [List.take_length] at *
  all_goals rw [sumG, if_neg (by omega)] at h
  · rw [if_pos (by assumption)] at h; exact h
  · rw [if_neg (by omega)] at h; exact h
end Go.V
namespace Go.V
open Go Go.RowKit Go.Proofs
set_option maxRecDepth 100000
set_option maxHeartbeats 4000000
set_option linter.unusedVariables false
set_option linter.unusedSimpArgs false
def revOkG {α : Type} [Inhabited α] (l s : List α) (k : Nat) : Prop := s.length = l.length ∧ ∀ q, q < l.length → s[q]? = if q < k ∨ l.length ≤ q + k then l[l.length - 1 - q]? else l[q]?
theorem rev_doneG {α : Type} [Inhabited α] {l s : List α} {k : Nat} (h : revOkG l s k) (hk : l.length ≤ 2 * k + 1) : s = l.reverse := by
  obtain ⟨h1, h2⟩ := h
  apply List.ext_getElem? 
  intro q
  by_cases hq : q < l.length
  · rw [h2 q hq, List.getElem?_reverse hq]
    split
    · rfl
    · rw [show l.length - 1 - q = q by omega]
  · rw [List.getElem?_eq_none (by omega), List.getElem?_eq_none (by simp; omega)]
theorem rev_stepG {α : Type} [Inhabited α] {l s : List α} {k : Nat} (h : revOkG l s k) (hk : 2 * k + 1 < l.length) : revOkG l ((s.set k (s.getD (l.length - 1 - k) default)).set (l.length - 1 - k) (s.getD k default)) (k + 1) := by
  obtain ⟨h1, h2⟩ := h
  refine ⟨by simp [h1], fun q hq => ?_⟩
  have ga : s.getD k default = l.getD k default := by
    rw [List.getD_eq_getElem?_getD, h2 k (by omega), if_neg (by omega), List.getD_eq_getElem?_getD]
  have gb : s.getD (l.length - 1 - k) default = l.getD (l.length - 1 - k) default := by
    rw [List.getD_eq_getElem?_getD, h2 _ (by omega), if_neg (by omega), List.getD_eq_getElem?_getD]
  rw [ga, gb, List.getElem?_set, List.length_set]
  by_cases e1 : l.length - 1 - k = q
  · rw [if_pos e1, if_pos (by omega), if_pos (by omega), List.getD_eq_getElem?_getD, show l.length - 1 - q = k by omega, List.getElem?_eq_getElem (by omega)]; rfl
  · rw [if_neg e1, List.getElem?_set]
    by_cases e2 : k = q
    · rw [if_pos e2, if_pos (by omega), if_pos (by omega), List.getD_eq_getElem?_getD, e2, List.getElem?_eq_getElem (by omega)]; rfl
    · rw [if_neg e2, h2 q hq]
      by_cases e3 : q < k ∨ l.length ≤ q + k
      · rw [if_pos e3, if_pos (by omega)]
      · rw [if_neg e3, if_neg (by omega)]
theorem reverse_cnt (l : List Count) (Q : PV → Mem → Prop) (hll : l.length ≤ 1000000) (h : Q (.tup []) [.row 59 (l.reverse.map eC)]) : Does Try.prog 108 [.own 0] [.row 59 (l.map eC)] 1 Q := by
  refine does_of mixed Try.func108 rfl (by kernel_rfl) no (slots [(0, [0, 2, 3])]) ?_
  simp only [Try.f108]
  repeat' (first
    | rw [w64_of ((l.length : Int) - 1) (by omega)]
    | simp -implicitDefEqProofs only [go_sem, eC, Nat.reduceAdd, Nat.reduceEqDiff, Nat.reduceLT, Nat.reduceBEq, Nat.reduceLeDiff, Nat.reduceSub, Int.reduceLE, Int.reduceNeg, Int.reduceEq, Int.reduceToNat]
    | with_reducible refine know_of fun _ => ?_
    | with_reducible refine ifD1 (by omega) ?_
    | with_reducible refine ifD0 (by omega) ?_
    | with_reducible refine ifE1 (by omega) ?_
    | with_reducible refine ifE0 (by omega) ?_
    | with_reducible refine ifN1 (by omega) ?_
    | with_reducible refine ifN0 (by omega) ?_
    | with_reducible refine ifD_of (fun _ => ?_) (fun _ => ?_)
    | with_reducible refine ifE_of (fun _ => ?_) (fun _ => ?_)
    | with_reducible refine ifN_of (fun _ => ?_) (fun _ => ?_)
    | with_reducible refine Go.V.if1 (by assumption) ?_
    | with_reducible refine Go.V.if0 (by assumption) ?_
    | with_reducible refine if_of (fun _ => ?_) (fun _ => ?_)
    | with_reducible refine s_of (idx_get _ _ _ (by omega) (by omega)) ?_
    | with_reducible refine s_of (idx_get _ _ _ (by omega) (by simp only [List.length_set, List.length_append, List.length_take, List.length_drop, List.length_reverse, List.length_singleton]; omega)) ?_
    | with_reducible refine s_of (map_get _ _ _ (by omega)) ?_
    | with_reducible refine s_of (map_get _ _ _ (by simp only [List.length_set]; omega)) ?_
    | with_reducible refine s_of (if_neg (by omega)) ?_
    | with_reducible refine s_of (if_pos (by omega)) ?_
    | with_reducible refine need_of (by omega) ?_
    | with_reducible refine nil_of (fun _ => ?_) ?_
    | with_reducible refine alt_of ?_ ?_
    | (with_reducible apply join_of; intro _ _)
    | with_reducible assumption)
  refine loop_then (loop_ind (σ := Nat × Int × List Count) (fun s => [(0, .own 0), (2, vi s.1), (3, vi s.2.1)]) (fun s => [.row 59 (s.2.2.map eC)]) (fun s => l.length - s.1) (fun s => revOkG l s.2.2 s.1 ∧ 2 * s.1 ≤ l.length + 1 ∧ s.2.1 = (l.length : Int) - 1 - s.1) ?_ (0, (l.length : Int) - 1, l) ⟨⟨rfl, fun q hq => by rw [if_neg (by omega)]⟩, by dsimp only; omega, by dsimp only; omega⟩)
  rintro X ⟨k, j, s⟩ ⟨hs, hk, hj⟩ ih
  try dsimp only at ih ⊢
  dsimp only at hs hk hj
  have hl := hs.1
  repeat' (first
    | rw [setC]
    | rw [w64_of (j - 1) (by omega)]
    | simp -implicitDefEqProofs only [go_sem, eC, Int.toNat_natCast, Nat.reduceAdd, Nat.reduceEqDiff, Nat.reduceLT, Nat.reduceBEq, Nat.reduceLeDiff, Nat.reduceSub, Int.reduceLE, Int.reduceNeg, Int.reduceEq, Int.reduceToNat]
    | with_reducible refine know_of fun _ => ?_
    | with_reducible refine ifD1 (by omega) ?_
    | with_reducible refine ifD0 (by omega) ?_
    | with_reducible refine ifE1 (by omega) ?_
    | with_reducible refine ifE0 (by omega) ?_
    | with_reducible refine ifN1 (by omega) ?_
    | with_reducible refine ifN0 (by omega) ?_
    | with_reducible refine ifD_of (fun _ => ?_) (fun _ => ?_)
    | with_reducible refine ifE_of (fun _ => ?_) (fun _ => ?_)
    | with_reducible refine ifN_of (fun _ => ?_) (fun _ => ?_)
    | with_reducible refine Go.V.if1 (by assumption) ?_
    | with_reducible refine Go.V.if0 (by assumption) ?_
    | with_reducible refine if_of (fun _ => ?_) (fun _ => ?_)
    | with_reducible refine s_of (idx_get _ _ _ (by omega) (by omega)) ?_
    | with_reducible refine s_of (idx_get _ _ _ (by omega) (by simp only [List.length_set, List.length_append, List.length_take, List.length_drop, List.length_reverse, List.length_singleton]; omega)) ?_
    | with_reducible refine s_of (map_get _ _ _ (by omega)) ?_
    | with_reducible refine s_of (map_get _ _ _ (by simp only [List.length_set]; omega)) ?_
    | with_reducible refine s_of (if_neg (by omega)) ?_
    | with_reducible refine s_of (if_pos (by omega)) ?_
    | with_reducible refine need_of (by omega) ?_
    | with_reducible refine nil_of (fun _ => ?_) ?_
    | with_reducible refine alt_of ?_ ?_
    | (with_reducible apply join_of; intro _ _)
    | with_reducible assumption)
  · rw [wnat k (by omega)]
    have hr := rev_stepG hs (by omega)
    rw [show l.length - 1 - k = j.toNat by omega] at hr
    exact ih (k + 1, j - 1, _) (by dsimp only; omega) ⟨hr, by dsimp only; omega, by dsimp only; omega⟩
  · rw [rev_doneG hs (by omega)]; exact h
theorem group_top (n : Int) (l : List Count) (Q : PV → Mem → Prop) (hl : l.length ≤ 1000000) (hr : ∀ c ∈ l, c.row.length ≤ 1000000) (hd : ∀ c ∈ l, 0 < c.diff) (hn : 0 ≤ n) (hn2 : n ≤ 9223372036854775807) (h : Q (.own 0) [.row 59 ((topG n l).map eC)]) : Does Try.prog 109 [vi n, .sl (l.map eC)] [] 0 Q := by
  refine does_of mixed Try.func109 rfl (by kernel_rfl) no (slots [(0, [0, 5, 9, 10, 11])]) ?_
  simp only [Try.f109]
  repeat' (first
    | simp -implicitDefEqProofs only [go_sem, eC, Nat.reduceAdd, Nat.reduceEqDiff, Nat.reduceLT, Nat.reduceBEq, Nat.reduceLeDiff, Nat.reduceSub, Int.reduceLE, Int.reduceNeg, Int.reduceEq, Int.reduceToNat]
    | with_reducible refine know_of fun _ => ?_
    | with_reducible refine ifD1 (by omega) ?_
    | with_reducible refine ifD0 (by omega) ?_
    | with_reducible refine ifE1 (by omega) ?_
    | with_reducible refine ifE0 (by omega) ?_
    | with_reducible refine ifN1 (by omega) ?_
    | with_reducible refine ifN0 (by omega) ?_
    | with_reducible refine ifD_of (fun _ => ?_) (fun _ => ?_)
    | with_reducible refine ifE_of (fun _ => ?_) (fun _ => ?_)
    | with_reducible refine ifN_of (fun _ => ?_) (fun _ => ?_)
    | with_reducible refine Go.V.if1 (by assumption) ?_
    | with_reducible refine Go.V.if0 (by assumption) ?_
    | with_reducible refine if_of (fun _ => ?_) (fun _ => ?_)
    | with_reducible refine s_of (idx_get _ _ _ (by omega) (by omega)) ?_
    | with_reducible refine s_of (idx_get _ _ _ (by omega) (by simp only [List.length_set, List.length_append, List.length_take, List.length_drop, List.length_reverse, List.length_singleton]; omega)) ?_
    | with_reducible refine s_of (map_get _ _ _ (by omega)) ?_
    | with_reducible refine s_of (map_get _ _ _ (by simp only [List.length_set]; omega)) ?_
    | with_reducible refine s_of (if_neg (by omega)) ?_
    | with_reducible refine s_of (if_pos (by omega)) ?_
    | with_reducible refine need_of (by omega) ?_
    | with_reducible refine nil_of (fun _ => ?_) ?_
    | with_reducible refine alt_of ?_ ?_
    | (with_reducible apply join_of; intro _ _)
    | with_reducible assumption)
  refine loop_then (loop_ind (σ := Nat × Int × List Count) (fun s => [(0, vi s.2.1), (5, .own 0), (9, .sl (l.map eC)), (10, vi l.length), (11, vi s.1)]) (fun s => [.row 59 (s.2.2.map eC)]) (fun s => l.length - s.1) (fun s => s.1 ≤ l.length ∧ s.2.2.length = s.1 ∧ 0 ≤ s.2.1 ∧ s.2.1 ≤ 9223372036854775807 ∧ s.2.2 ++ topG s.2.1 (l.drop s.1) = topG n l) ?_ (0, n, []) ⟨Nat.zero_le _, rfl, hn, hn2, rfl⟩)
  rintro X ⟨i, k, A⟩ ⟨hi, hA, hk, hk2, hs⟩ ih
  try dsimp only at ih ⊢
  dsimp only at hi hA hk hk2 hs
  repeat' (first
    | rw [appC]
    | refine need_of (by simp only [List.length_append, List.length_map, List.length_singleton, List.length_take]; omega) ?_
    | simp -implicitDefEqProofs only [go_sem, eC, Int.toNat_natCast, Nat.reduceAdd, Nat.reduceEqDiff, Nat.reduceLT, Nat.reduceBEq, Nat.reduceLeDiff, Nat.reduceSub, Int.reduceLE, Int.reduceNeg, Int.reduceEq, Int.reduceToNat]
    | with_reducible refine know_of fun _ => ?_
    | (with_reducible refine does_then (clone_row _ _ (by have := hr _ (getD_mem' l i (by omega)); omega) ?_))
    | with_reducible refine ifD1 (by omega) ?_
    | with_reducible refine ifD0 (by omega) ?_
    | with_reducible refine ifE1 (by omega) ?_
    | with_reducible refine ifE0 (by omega) ?_
    | with_reducible refine ifN1 (by omega) ?_
    | with_reducible refine ifN0 (by omega) ?_
    | with_reducible refine ifD_of (fun _ => ?_) (fun _ => ?_)
    | with_reducible refine ifE_of (fun _ => ?_) (fun _ => ?_)
    | with_reducible refine ifN_of (fun _ => ?_) (fun _ => ?_)
    | with_reducible refine Go.V.if1 (by assumption) ?_
    | with_reducible refine Go.V.if0 (by assumption) ?_
    | with_reducible refine if_of (fun _ => ?_) (fun _ => ?_)
    | with_reducible refine s_of (idx_get _ _ _ (by omega) (by omega)) ?_
    | with_reducible refine s_of (idx_get _ _ _ (by omega) (by simp only [List.length_set, List.length_append, List.length_take, List.length_drop, List.length_reverse, List.length_singleton]; omega)) ?_
    | with_reducible refine s_of (map_get _ _ _ (by omega)) ?_
    | with_reducible refine s_of (map_get _ _ _ (by simp only [List.length_set]; omega)) ?_
    | with_reducible refine s_of (if_neg (by omega)) ?_
    | with_reducible refine s_of (if_pos (by omega)) ?_
    | with_reducible refine need_of (by omega) ?_
    | with_reducible refine nil_of (fun _ => ?_) ?_
    | with_reducible refine alt_of ?_ ?_
    | (with_reducible apply join_of; intro _ _)
    | with_reducible assumption)
  · rename_i h0
    rw [drop_getD l i (by omega), topG, if_pos (by exact h0), List.append_nil] at hs
    rw [hs]; exact h
  · rename_i h0 _ _
    have hdi := hd _ (getD_mem' l i (by omega))
    have hmk : minI (l.getD i default).diff k = if k < (l.getD i default).diff then k else (l.getD i default).diff := rfl
    rw [← hmk] at h0 ⊢
    have hm : 0 ≤ minI (l.getD i default).diff k ∧ minI (l.getD i default).diff k ≤ k := by rw [hmk]; split <;> omega
    rw [drop_getD l i (by omega), topG, if_neg h0] at hs
    rw [wnat i (by omega), w64_of _ (by omega)]
    exact ih (i + 1, _, _) (by dsimp only; omega) ⟨by dsimp only; omega, by dsimp only; rw [List.length_append, hA]; rfl, by dsimp only; omega, by dsimp only; omega, by dsimp only; rw [List.append_assoc]; exact hs⟩
  · rw [List.drop_eq_nil_of_le (by omega), topG, List.append_nil] at hs
    rw [hs]; exact h
end Go.V
namespace Go.V
open Go Go.RowKit Go.Proofs
set_option maxRecDepth 100000
set_option maxHeartbeats 4000000
set_option linter.unusedVariables false
set_option linter.unusedSimpArgs false
def ofG (kind n : Int) (key : List Val) (l : List Count) : List Count × Int :=
  if kind = 1 then countG key l else if kind = 2 then sumG key n l else if kind = 4 then (topG 1 ((someG l).reverse.take 1), 0) else if kind = 3 then (topG 1 ((someG l).take 1), 0) else if kind = 5 then (topG n (someG l), 0) else ((someG l).map fun c => ⟨c.row, 1⟩, 0)
theorem some_pos {l : List Count} : ∀ c ∈ someG l, 0 < c.diff := fun c hc => by
  have := (List.mem_filter.1 hc).2
  simp only [Bool.not_eq_true', decide_eq_false_iff_not] at this
  omega
theorem some_mem {l : List Count} : ∀ c ∈ someG l, c ∈ l := fun c hc => (List.mem_filter.1 hc).1
theorem some_len (l : List Count) : (someG l).length ≤ l.length := List.length_filter_le _ _
theorem take_min {α : Type} (l : List α) : l.take (if (1 : Int) < (l.length : Int) then (1 : Int) else (l.length : Int)).toNat = l.take 1 := by
  split
  · rfl
  · rw [Int.toNat_natCast, List.take_length, List.take_of_length_le (by omega)]
theorem once_step (l : List Count) (i : Nat) (h : i < l.length) : ((l.take i).map fun c => (⟨c.row, 1⟩ : Count)).map eC ++ (onceG (l.getD i default).row).map eC = ((l.take (i + 1)).map fun c => (⟨c.row, 1⟩ : Count)).map eC := by rw [take_cons' l i h]; simp [onceG]
theorem group_of (kind n : Int) (key : List Val) (l : List Count) (Q : PV → Mem → Prop) (hk : key.length ≤ 1000000) (hl : l.length ≤ 1000000) (hr : ∀ c ∈ l, c.row.length ≤ 1000000) (hn : kind = 5 → 0 ≤ n ∧ n ≤ 9223372036854775807) (h : Q (.tup [.own 0, vi (ofG kind n key l).2]) [.row 59 ((ofG kind n key l).1.map eC)]) : Does Try.prog 62 [vi kind, vi n, .sl (key.map eV), .sl (l.map eC)] [] 0 Q := by
  refine does_of mixed Try.func62 rfl (by kernel_rfl) lentG (slots [(6, [11, 48, 49, 50])]) ?_
  simp only [Try.f62]
  have hsl := some_len l
  repeat' (first
    | refine need_of (by simp only [List.length_reverse]; omega) ?_
    | simp -implicitDefEqProofs only [go_sem, eC, takeM, List.drop_zero, Nat.reduceAdd, Nat.reduceEqDiff, Nat.reduceLT, Nat.reduceBEq, Nat.reduceLeDiff, Nat.reduceSub, Int.reduceLE, Int.reduceNeg, Int.reduceEq, Int.reduceToNat]
    | with_reducible refine know_of fun _ => ?_
    | (with_reducible refine does_then (group_some _ _ (by omega) ?_))
    | (with_reducible refine does_then (group_count _ _ _ (by omega) (by omega) ?_))
    | (with_reducible refine does_then (group_sum _ _ _ _ (by omega) (by omega) ?_))
    | (with_reducible refine does_then (reverse_cnt _ _ (by omega) ?_))
    | (with_reducible refine does_then (group_top _ _ _ (by simp only [List.length_take, List.length_reverse]; omega) (fun c hc => hr c (some_mem c (by first | exact hc | exact List.mem_of_mem_take hc | exact List.mem_reverse.1 (List.mem_of_mem_take hc)))) (fun c hc => some_pos c (by first | exact hc | exact List.mem_of_mem_take hc | exact List.mem_reverse.1 (List.mem_of_mem_take hc))) (by omega) (by omega) ?_))
    | with_reducible refine ifD1 (by omega) ?_
    | with_reducible refine ifD0 (by omega) ?_
    | with_reducible refine ifE1 (by omega) ?_
    | with_reducible refine ifE0 (by omega) ?_
    | with_reducible refine ifN1 (by omega) ?_
    | with_reducible refine ifN0 (by omega) ?_
    | with_reducible refine ifD_of (fun _ => ?_) (fun _ => ?_)
    | with_reducible refine ifE_of (fun _ => ?_) (fun _ => ?_)
    | with_reducible refine ifN_of (fun _ => ?_) (fun _ => ?_)
    | with_reducible refine Go.V.if1 (by assumption) ?_
    | with_reducible refine Go.V.if0 (by assumption) ?_
    | with_reducible refine if_of (fun _ => ?_) (fun _ => ?_)
    | with_reducible refine s_of (idx_get _ _ _ (by omega) (by omega)) ?_
    | with_reducible refine s_of (idx_get _ _ _ (by omega) (by simp only [List.length_set, List.length_append, List.length_take, List.length_drop, List.length_reverse, List.length_singleton]; omega)) ?_
    | with_reducible refine s_of (map_get _ _ _ (by omega)) ?_
    | with_reducible refine s_of (map_get _ _ _ (by simp only [List.length_set]; omega)) ?_
    | with_reducible refine s_of (if_neg (by omega)) ?_
    | with_reducible refine s_of (if_pos (by omega)) ?_
    | with_reducible refine need_of (by omega) ?_
    | with_reducible refine nil_of (fun _ => ?_) ?_
    | with_reducible refine alt_of ?_ ?_
    | (with_reducible apply join_of; intro _ _)
    | with_reducible assumption)
  · rw [ofG, if_pos (by assumption)] at h; exact h
  · rw [ofG, if_neg (by assumption), if_pos (by assumption)] at h; exact h
  · rw [ofG, if_neg (by assumption), if_neg (by assumption), if_pos (by assumption)] at h
    rw [take_min]; exact h
  · rw [ofG, if_neg (by assumption), if_neg (by assumption), if_neg (by assumption), if_pos (by assumption)] at h
    rw [take_min]; exact h
  · have hn' := hn (by assumption)
    refine does_then (group_top _ _ _ (by omega) (fun c hc => hr c (some_mem c hc)) (fun c hc => some_pos c hc) (by omega) (by omega) ?_)
    repeat' (first
    | simp -implicitDefEqProofs only [go_sem, eC, Nat.reduceAdd, Nat.reduceEqDiff, Nat.reduceLT, Nat.reduceBEq, Nat.reduceLeDiff, Nat.reduceSub, Int.reduceLE, Int.reduceNeg, Int.reduceEq, Int.reduceToNat]
    | with_reducible refine know_of fun _ => ?_
    | with_reducible refine ifD1 (by omega) ?_
    | with_reducible refine ifD0 (by omega) ?_
    | with_reducible refine ifE1 (by omega) ?_
    | with_reducible refine ifE0 (by omega) ?_
    | with_reducible refine ifN1 (by omega) ?_
    | with_reducible refine ifN0 (by omega) ?_
    | with_reducible refine ifD_of (fun _ => ?_) (fun _ => ?_)
    | with_reducible refine ifE_of (fun _ => ?_) (fun _ => ?_)
    | with_reducible refine ifN_of (fun _ => ?_) (fun _ => ?_)
    | with_reducible refine Go.V.if1 (by assumption) ?_
    | with_reducible refine Go.V.if0 (by assumption) ?_
    | with_reducible refine if_of (fun _ => ?_) (fun _ => ?_)
    | with_reducible refine s_of (idx_get _ _ _ (by omega) (by omega)) ?_
    | with_reducible refine s_of (idx_get _ _ _ (by omega) (by simp only [List.length_set, List.length_append, List.length_take, List.length_drop, List.length_reverse, List.length_singleton]; omega)) ?_
    | with_reducible refine s_of (map_get _ _ _ (by omega)) ?_
    | with_reducible refine s_of (map_get _ _ _ (by simp only [List.length_set]; omega)) ?_
    | with_reducible refine s_of (if_neg (by omega)) ?_
    | with_reducible refine s_of (if_pos (by omega)) ?_
    | with_reducible refine need_of (by omega) ?_
    | with_reducible refine nil_of (fun _ => ?_) ?_
    | with_reducible refine alt_of ?_ ?_
    | (with_reducible apply join_of; intro _ _)
    | with_reducible assumption)
    rw [ofG, if_neg (by assumption), if_neg (by assumption), if_neg (by assumption), if_neg (by assumption), if_pos (by assumption)] at h; exact h
  rw [ofG, if_neg (by assumption), if_neg (by assumption), if_neg (by assumption), if_neg (by assumption), if_neg (by assumption)] at h
  refine loop_then (loop_ind (σ := Nat) (fun s => [(11, .own 0), (48, .own 1), (49, vi (someG l).length), (50, vi s)]) (fun s => [.row 59 ((((someG l).take s).map fun c => (⟨c.row, 1⟩ : Count)).map eC), .row 59 ((someG l).map eC)]) (fun s => (someG l).length - s) (fun s => s ≤ (someG l).length) ?_ 0 (Nat.zero_le _))
  rintro X i hi ih
  try dsimp only at ih ⊢
  repeat' (first
    | refine need_of (by simp only [List.length_append, List.length_map, List.length_take, onceG, List.length_singleton]; omega) ?_
    | simp -implicitDefEqProofs only [go_sem, eC, Int.toNat_natCast, Nat.reduceAdd, Nat.reduceEqDiff, Nat.reduceLT, Nat.reduceBEq, Nat.reduceLeDiff, Nat.reduceSub, Int.reduceLE, Int.reduceNeg, Int.reduceEq, Int.reduceToNat]
    | with_reducible refine know_of fun _ => ?_
    | (with_reducible refine does_then (group_once _ _ (by have := hr _ (some_mem _ (getD_mem' (someG l) i (by omega))); omega) ?_))
    | with_reducible refine ifD1 (by omega) ?_
    | with_reducible refine ifD0 (by omega) ?_
    | with_reducible refine ifE1 (by omega) ?_
    | with_reducible refine ifE0 (by omega) ?_
    | with_reducible refine ifN1 (by omega) ?_
    | with_reducible refine ifN0 (by omega) ?_
    | with_reducible refine ifD_of (fun _ => ?_) (fun _ => ?_)
    | with_reducible refine ifE_of (fun _ => ?_) (fun _ => ?_)
    | with_reducible refine ifN_of (fun _ => ?_) (fun _ => ?_)
    | with_reducible refine Go.V.if1 (by assumption) ?_
    | with_reducible refine Go.V.if0 (by assumption) ?_
    | with_reducible refine if_of (fun _ => ?_) (fun _ => ?_)
    | with_reducible refine s_of (idx_get _ _ _ (by omega) (by omega)) ?_
    | with_reducible refine s_of (idx_get _ _ _ (by omega) (by simp only [List.length_set, List.length_append, List.length_take, List.length_drop, List.length_reverse, List.length_singleton]; omega)) ?_
    | with_reducible refine s_of (map_get _ _ _ (by omega)) ?_
    | with_reducible refine s_of (map_get _ _ _ (by simp only [List.length_set]; omega)) ?_
    | with_reducible refine s_of (if_neg (by omega)) ?_
    | with_reducible refine s_of (if_pos (by omega)) ?_
    | with_reducible refine need_of (by omega) ?_
    | with_reducible refine nil_of (fun _ => ?_) ?_
    | with_reducible refine alt_of ?_ ?_
    | (with_reducible apply join_of; intro _ _)
    | with_reducible assumption)
  · rw [wnat i (by omega), once_step _ i (by omega)]; exact ih (i + 1) (by omega) (by omega)
  · rw [List.take_of_length_le (by omega)]; exact h
end Go.V
namespace Go.V
open Go Go.RowKit Go.Proofs
set_option maxRecDepth 100000
set_option maxHeartbeats 4000000
set_option linter.unusedVariables false
set_option linter.unusedSimpArgs false
theorem dropWhile_len {α : Type} (p : α → Bool) (l : List α) : (l.dropWhile p).length ≤ l.length := by
  induction l with
  | nil => simp
  | cons x l ih => rw [List.dropWhile_cons]; split <;> simp <;> omega
def cutG {α : Type} (p : α → α → Bool) : List α → List (List α)
  | [] => []
  | x :: l => (x :: l.takeWhile (p x)) :: cutG p (l.dropWhile (p x))
termination_by l => l.length
decreasing_by have := dropWhile_len (p x) l; simp; omega
theorem tw_le {α : Type} (p : α → Bool) (l : List α) : (l.takeWhile p).length ≤ l.length := by
  induction l with
  | nil => simp
  | cons x l ih => rw [List.takeWhile_cons]; split <;> simp <;> omega
theorem tw_lt {α : Type} [Inhabited α] (p : α → Bool) : ∀ (l : List α) (i : Nat), i < (l.takeWhile p).length → p (l.getD i default) = true
  | [], i, h => by simp at h
  | x :: l, i, h => by
    rw [List.takeWhile_cons] at h
    split at h
    · cases i with
      | zero => simpa
      | succ i => rw [List.getD_cons_succ]; exact tw_lt p l i (by simpa using h)
    · simp at h
theorem tw_eq {α : Type} [Inhabited α] (p : α → Bool) : ∀ (l : List α), (l.takeWhile p).length < l.length → p (l.getD (l.takeWhile p).length default) = false
  | [], h => by simp at h
  | x :: l, h => by
    rw [List.takeWhile_cons] at h ⊢
    split
    · rename_i hp
      rw [if_pos hp] at h
      rw [List.length_cons, List.getD_cons_succ]; exact tw_eq p l (by simpa using h)
    · simpa using ‹¬ p x = true›
theorem tw_take {α : Type} (p : α → Bool) (l : List α) : l.take (l.takeWhile p).length = l.takeWhile p := by
  induction l with
  | nil => simp
  | cons x l ih =>
    rw [List.takeWhile_cons]
    split
    · rw [List.length_cons, List.take_succ_cons, ih]
    · simp
theorem tw_drop {α : Type} (p : α → Bool) (l : List α) : l.drop (l.takeWhile p).length = l.dropWhile p := by
  induction l with
  | nil => simp
  | cons x l ih =>
    rw [List.takeWhile_cons, List.dropWhile_cons]
    split
    · rw [List.length_cons, List.drop_succ_cons, ih]
    · simp
theorem fitL1 (l : List Count) : Fit Try.prog 50 [[.sl (l.map eC)]] = True := fitL [l]
attribute [go_sem] fitL1
theorem appL (A : List (List Count)) (l : List Count) : A.map eL ++ [[.sl (l.map eC)]] = (A ++ [l]).map eL := by rw [List.map_append]; rfl
theorem group_cut (l : List Count) (g : FuncId) (cs : List PV) (p : Count → Count → Bool) (Q : PV → Mem → Prop) (hl : l.length ≤ 1000000) (hg : ∀ x ∈ l, ∀ y ∈ l, ∀ Q : PV → Mem → Prop, Q (vb (p x y)) [] → Does Try.prog g [.agg [.sl (x.row.map eV), vi x.diff], .agg [.sl (y.row.map eV), vi y.diff], .cad cs] [] 0 Q) (h : Q (.own 0) [.row 50 ((cutG p l).map eL)]) : Does Try.prog 59 [.sl (l.map eC), .fn g [.cad cs]] [] 0 Q := by
  refine does_of mixed Try.func59 rfl (by kernel_rfl) no (slots [(0, [0, 1, 5]), (2, [0, 1, 5, 6])]) ?_
  simp only [Try.f59]
  repeat' (first
    | simp -implicitDefEqProofs only [go_sem, eC, Nat.reduceAdd, Nat.reduceEqDiff, Nat.reduceLT, Nat.reduceBEq, Nat.reduceLeDiff, Nat.reduceSub, Int.reduceLE, Int.reduceNeg, Int.reduceEq, Int.reduceToNat]
    | with_reducible refine know_of fun _ => ?_
    | with_reducible refine ifD1 (by omega) ?_
    | with_reducible refine ifD0 (by omega) ?_
    | with_reducible refine ifE1 (by omega) ?_
    | with_reducible refine ifE0 (by omega) ?_
    | with_reducible refine ifN1 (by omega) ?_
    | with_reducible refine ifN0 (by omega) ?_
    | with_reducible refine ifD_of (fun _ => ?_) (fun _ => ?_)
    | with_reducible refine ifE_of (fun _ => ?_) (fun _ => ?_)
    | with_reducible refine ifN_of (fun _ => ?_) (fun _ => ?_)
    | with_reducible refine Go.V.if1 (by assumption) ?_
    | with_reducible refine Go.V.if0 (by assumption) ?_
    | with_reducible refine if_of (fun _ => ?_) (fun _ => ?_)
    | with_reducible refine s_of (idx_get _ _ _ (by omega) (by omega)) ?_
    | with_reducible refine s_of (idx_get _ _ _ (by omega) (by simp only [List.length_set, List.length_append, List.length_take, List.length_drop, List.length_reverse, List.length_singleton]; omega)) ?_
    | with_reducible refine s_of (map_get _ _ _ (by omega)) ?_
    | with_reducible refine s_of (map_get _ _ _ (by simp only [List.length_set]; omega)) ?_
    | with_reducible refine s_of (if_neg (by omega)) ?_
    | with_reducible refine s_of (if_pos (by omega)) ?_
    | with_reducible refine need_of (by omega) ?_
    | with_reducible refine nil_of (fun _ => ?_) ?_
    | with_reducible refine alt_of ?_ ?_
    | (with_reducible apply join_of; intro _ _)
    | with_reducible assumption)
  refine loop_then (loop_ind (σ := List Count × List (List Count)) (fun s => [(0, .sl (s.1.map eC)), (1, .fn g [.cad cs]), (5, .own 0)]) (fun s => [.row 50 (s.2.map eL)]) (fun s => s.1.length) (fun s => s.1.length + s.2.length ≤ 1000000 ∧ (∀ y ∈ s.1, y ∈ l) ∧ s.2 ++ cutG p s.1 = cutG p l) ?_ (l, []) ⟨by simpa using hl, fun _ hy => hy, rfl⟩)
  rintro X ⟨r, A⟩ ⟨hA, hm, hs⟩ ih
  try dsimp only at ih ⊢
  dsimp only at hA hm hs
  repeat' (first
    | simp -implicitDefEqProofs only [go_sem, eC, Int.toNat_natCast, Nat.reduceAdd, Nat.reduceEqDiff, Nat.reduceLT, Nat.reduceBEq, Nat.reduceLeDiff, Nat.reduceSub, Int.reduceLE, Int.reduceNeg, Int.reduceEq, Int.reduceToNat]
    | with_reducible refine know_of fun _ => ?_
    | with_reducible refine ifD1 (by omega) ?_
    | with_reducible refine ifD0 (by omega) ?_
    | with_reducible refine ifE1 (by omega) ?_
    | with_reducible refine ifE0 (by omega) ?_
    | with_reducible refine ifN1 (by omega) ?_
    | with_reducible refine ifN0 (by omega) ?_
    | with_reducible refine ifD_of (fun _ => ?_) (fun _ => ?_)
    | with_reducible refine ifE_of (fun _ => ?_) (fun _ => ?_)
    | with_reducible refine ifN_of (fun _ => ?_) (fun _ => ?_)
    | with_reducible refine Go.V.if1 (by assumption) ?_
    | with_reducible refine Go.V.if0 (by assumption) ?_
    | with_reducible refine if_of (fun _ => ?_) (fun _ => ?_)
    | with_reducible refine s_of (idx_get _ _ _ (by omega) (by omega)) ?_
    | with_reducible refine s_of (idx_get _ _ _ (by omega) (by simp only [List.length_set, List.length_append, List.length_take, List.length_drop, List.length_reverse, List.length_singleton]; omega)) ?_
    | with_reducible refine s_of (map_get _ _ _ (by omega)) ?_
    | with_reducible refine s_of (map_get _ _ _ (by simp only [List.length_set]; omega)) ?_
    | with_reducible refine s_of (if_neg (by omega)) ?_
    | with_reducible refine s_of (if_pos (by omega)) ?_
    | with_reducible refine need_of (by omega) ?_
    | with_reducible refine nil_of (fun _ => ?_) ?_
    | with_reducible refine alt_of ?_ ?_
    | (with_reducible apply join_of; intro _ _)
    | with_reducible assumption)
  rotate_left
  · obtain rfl : r = [] := List.eq_nil_of_length_eq_zero (by omega)
    rw [cutG, List.append_nil] at hs
    rw [hs]; exact h
  obtain ⟨x, r', hr⟩ : ∃ x r', r = x :: r' := by
    cases r with
    | nil => simp at *
    | cons x r' => exact ⟨x, r', rfl⟩
  have hW := tw_le (p x) r'
  have hrl : r.length = r'.length + 1 := by rw [hr]; rfl
  have g0 : r.getD 0 default = x := by rw [hr]; rfl
  have gn : ∀ n, 1 ≤ n → r.getD n default = r'.getD (n - 1) default := by
    intro n hn
    obtain ⟨q, rfl⟩ : ∃ q, n = q + 1 := ⟨n - 1, by omega⟩
    rw [hr, List.getD_cons_succ]; rfl
  have ih0 := ih
  clear ih
  refine loop_then (loop_ind (σ := Nat) (fun s => [(0, .sl (r.map eC)), (1, .fn g [.cad cs]), (5, .own 0), (6, vi s)]) (fun s => [.row 50 (A.map eL)]) (fun s => r.length - s) (fun s => 1 ≤ s ∧ s ≤ (r'.takeWhile (p x)).length + 1) ?_ 1 ⟨Nat.le_refl _, by omega⟩)
  rintro X n ⟨hn1, hn⟩ ih
  try dsimp only at ih ⊢
  repeat' (first
    | with_reducible refine need_of ⟨by omega, by omega, by omega, by omega, lenC _⟩ ?_
    | with_reducible refine need_of ⟨by omega, by omega, by omega, lenC _⟩ ?_
    | with_reducible refine s_of (idx_get _ _ 0 (by omega) (by omega)) ?_
    | rw [appL]
    | simp -implicitDefEqProofs only [go_sem, eC, takeM, dropM, List.drop_zero, Int.toNat_natCast, Nat.reduceAdd, Nat.reduceEqDiff, Nat.reduceLT, Nat.reduceBEq, Nat.reduceLeDiff, Nat.reduceSub, Int.reduceLE, Int.reduceNeg, Int.reduceEq, Int.reduceToNat]
    | with_reducible refine know_of fun _ => ?_
    | (with_reducible refine does_then (hg (r.getD 0 default) (hm _ (getD_mem' r 0 (by omega))) (r.getD n default) (hm _ (getD_mem' r n (by omega))) _ ?_))
    | with_reducible refine ifD1 (by omega) ?_
    | with_reducible refine ifD0 (by omega) ?_
    | with_reducible refine ifE1 (by omega) ?_
    | with_reducible refine ifE0 (by omega) ?_
    | with_reducible refine ifN1 (by omega) ?_
    | with_reducible refine ifN0 (by omega) ?_
    | with_reducible refine ifD_of (fun _ => ?_) (fun _ => ?_)
    | with_reducible refine ifE_of (fun _ => ?_) (fun _ => ?_)
    | with_reducible refine ifN_of (fun _ => ?_) (fun _ => ?_)
    | with_reducible refine Go.V.if1 (by assumption) ?_
    | with_reducible refine Go.V.if0 (by assumption) ?_
    | with_reducible refine if_of (fun _ => ?_) (fun _ => ?_)
    | with_reducible refine s_of (idx_get _ _ _ (by omega) (by omega)) ?_
    | with_reducible refine s_of (idx_get _ _ _ (by omega) (by simp only [List.length_set, List.length_append, List.length_take, List.length_drop, List.length_reverse, List.length_singleton]; omega)) ?_
    | with_reducible refine s_of (map_get _ _ _ (by omega)) ?_
    | with_reducible refine s_of (map_get _ _ _ (by simp only [List.length_set]; omega)) ?_
    | with_reducible refine s_of (if_neg (by omega)) ?_
    | with_reducible refine s_of (if_pos (by omega)) ?_
    | with_reducible refine need_of (by omega) ?_
    | with_reducible refine nil_of (fun _ => ?_) ?_
    | with_reducible refine alt_of ?_ ?_
    | (with_reducible apply join_of; intro _ _)
    | with_reducible assumption)
  · rename_i hp _
    rw [wnat n (by omega)]
    refine ih (n + 1) (by omega) ⟨by omega, ?_⟩
    rcases Nat.lt_or_ge n ((r'.takeWhile (p x)).length + 1) with h3 | h3
    · omega
    · exfalso
      rw [g0, gn n hn1, show n - 1 = (r'.takeWhile (p x)).length by omega, tw_eq (p x) r' (by omega)] at hp
      cases hp
  all_goals
    have hnW : n = (r'.takeWhile (p x)).length + 1 := by
      first
      | omega
      | (rename_i hp
         rcases Nat.lt_or_ge n ((r'.takeWhile (p x)).length + 1) with h3 | h3
         · exfalso
           rw [g0, gn n hn1, tw_lt (p x) r' (n - 1) (by omega)] at hp
           cases hp
         · omega)
    have e1 : r.take n = x :: r'.takeWhile (p x) := by rw [hnW, hr, List.take_succ_cons, tw_take]
    have e2 : r.drop n = r'.dropWhile (p x) := by rw [hnW, hr, List.drop_succ_cons, tw_drop]
    rw [List.take_length]
    refine ih0 (r.drop n, A ++ [r.take n]) (by simp only [List.length_drop]; omega) ⟨by simp only [List.length_drop, List.length_append, List.length_singleton]; omega, fun y hy => hm y (List.mem_of_mem_drop hy), ?_⟩
    dsimp only
    rw [hr, cutG] at hs
    rw [e1, e2, List.append_assoc]; exact hs
end Go.V
namespace Go.V
open Go Go.RowKit Go.Proofs
set_option maxRecDepth 100000
set_option maxHeartbeats 4000000
set_option linter.unusedVariables false
set_option linter.unusedSimpArgs false
def keyG (kind key : Int) (r : List Val) : List Val × Int := if kind = 0 then (r, 0) else if key < 0 ∨ (r.length : Int) < key then ([], 9) else (r.take key.toNat, 0)
def ofAll (kind n : Int) (k : Nat) : List (List Count) → List Count → List Count × Int
  | [], acc => (acc, 0)
  | p :: ps, acc => if (ofG kind n ((p.getD 0 default).row.take k) p).2 ≠ 0 then ([], (ofG kind n ((p.getD 0 default).row.take k) p).2) else ofAll kind n k ps (acc ++ (ofG kind n ((p.getD 0 default).row.take k) p).1)
def sameK (k : Nat) (a b : Count) : Bool := orderR (a.row.take k) (b.row.take k) == 0
def keyK (kind key : Int) : Int := if kind = 0 then 0 else key
def shortG (k : Int) (c : Count) : Bool := decide ((c.row.length : Int) < k)
def makeG (kind key n : Int) (l : List Count) : List Count × Int :=
  if kind < 0 ∨ 6 ≤ kind then ([], 8)
  else if keyK kind key < 0 ∨ l.any (shortG (keyK kind key)) = true then ([], 9)
  else if knownG kind n ≠ 0 then ([], knownG kind n)
  else if (lessC l).2 ≠ 0 then ([], (lessC l).2)
  else ofAll kind n (keyK kind key).toNat (cutG (sameK (keyK kind key).toNat) (lessC l).1) []
theorem cutG_flat {α : Type} (p : α → α → Bool) : ∀ (n : Nat) (l : List α), l.length ≤ n → (cutG p l).flatten = l
  | n, [], _ => by rw [cutG]; rfl
  | 0, x :: l, h => by simp at h
  | n + 1, x :: l, h => by
    rw [cutG, List.flatten_cons, cutG_flat p n _ (by have := dropWhile_len (p x) l; simp at h; omega), List.cons_append, List.takeWhile_append_dropWhile]
theorem cutG_ne {α : Type} (p : α → α → Bool) : ∀ (n : Nat) (l : List α), l.length ≤ n → ∀ y ∈ cutG p l, y ≠ []
  | n, [], _ => by rw [cutG]; intro y hy; cases hy
  | 0, x :: l, h => by simp at h
  | n + 1, x :: l, h => by
    rw [cutG]
    intro y hy
    rcases List.mem_cons.1 hy with rfl | hy
    · simp
    · exact cutG_ne p n _ (by have := dropWhile_len (p x) l; simp at h; omega) y hy
theorem topG_len : ∀ (n : Int) (l : List Count), (topG n l).length ≤ l.length
  | _, [] => by simp [topG]
  | n, c :: l => by
    rw [topG]
    split
    · simp
    · simp only [List.length_cons]
      have := topG_len (n - minI c.diff n) l
      omega
theorem ofG_len (kind n : Int) (key : List Val) (l : List Count) (h : l ≠ []) : (ofG kind n key l).1.length ≤ l.length := by
  have h1 : 1 ≤ l.length := by cases l <;> simp_all
  have h2 := some_len l
  have h3 : ∀ (m : Int) (k : List Count), k.length ≤ l.length → (topG m k).length ≤ l.length := fun m k hk => Nat.le_trans (topG_len m k) hk
  unfold ofG
  split
  · unfold countG; split <;> simp [onceG] <;> omega
  split
  · unfold sumG
    split
    · simp
    split <;> simp [onceG] <;> omega
  split
  · exact h3 _ _ (by simp; omega)
  split
  · exact h3 _ _ (by simp; omega)
  split
  · exact h3 _ _ h2
  · simpa using h2
theorem group_Key (kind key : Int) (r : List Val) (Q : PV → Mem → Prop) (hl : r.length ≤ 1000000) (h : Q (.tup [.own 0, vi (keyG kind key r).2]) [.row 47 ((keyG kind key r).1.map eV)]) : Does Try.prog 28 [vi kind, vi key, .sl (r.map eV)] [] 0 Q := by
  refine does_of mixed Try.func28 rfl (by kernel_rfl) no (slots []) ?_
  simp only [Try.f28]
  repeat' (first
    | simp -implicitDefEqProofs only [go_sem, Nat.reduceAdd, Nat.reduceEqDiff, Nat.reduceLT, Nat.reduceBEq, Nat.reduceLeDiff, Nat.reduceSub, Int.reduceLE, Int.reduceNeg, Int.reduceEq, Int.reduceToNat]
    | with_reducible refine know_of fun _ => ?_
    | (with_reducible refine does_then (clone_row _ _ (by omega) ?_))
    | (with_reducible refine does_then (row_Cut _ _ _ (by omega) (fun _ => ?_) (fun _ _ => ?_)))
    | with_reducible refine ifD1 (by omega) ?_
    | with_reducible refine ifD0 (by omega) ?_
    | with_reducible refine ifE1 (by omega) ?_
    | with_reducible refine ifE0 (by omega) ?_
    | with_reducible refine ifN1 (by omega) ?_
    | with_reducible refine ifN0 (by omega) ?_
    | with_reducible refine ifD_of (fun _ => ?_) (fun _ => ?_)
    | with_reducible refine ifE_of (fun _ => ?_) (fun _ => ?_)
    | with_reducible refine ifN_of (fun _ => ?_) (fun _ => ?_)
    | with_reducible refine Go.V.if1 (by assumption) ?_
    | with_reducible refine Go.V.if0 (by assumption) ?_
    | with_reducible refine if_of (fun _ => ?_) (fun _ => ?_)
    | with_reducible refine s_of (idx_get _ _ _ (by omega) (by omega)) ?_
    | with_reducible refine s_of (idx_get _ _ _ (by omega) (by simp only [List.length_set, List.length_append, List.length_take, List.length_drop, List.length_reverse, List.length_singleton]; omega)) ?_
    | with_reducible refine s_of (map_get _ _ _ (by omega)) ?_
    | with_reducible refine s_of (map_get _ _ _ (by simp only [List.length_set]; omega)) ?_
    | with_reducible refine s_of (if_neg (by omega)) ?_
    | with_reducible refine s_of (if_pos (by omega)) ?_
    | with_reducible refine need_of (by omega) ?_
    | with_reducible refine nil_of (fun _ => ?_) ?_
    | with_reducible refine alt_of ?_ ?_
    | (with_reducible apply join_of; intro _ _)
    | with_reducible assumption)
  all_goals (simp (disch := omega) only [keyG, if_pos, if_neg] at h; exact h)
theorem make_short (r : List Val) (d k : Int) (Q : PV → Mem → Prop)  (h : Q (vb (shortG k ⟨r, d⟩)) []) : Does Try.prog 55 [.agg [.sl (r.map eV), vi d], .cad [vi k]] [] 0 Q := by
  refine does_of mixed Try.func55 rfl (by kernel_rfl) no (slots []) ?_
  simp only [Try.f55]
  repeat' (first
    | simp -implicitDefEqProofs only [go_sem, Nat.reduceAdd, Nat.reduceEqDiff, Nat.reduceLT, Nat.reduceBEq, Nat.reduceLeDiff, Nat.reduceSub, Int.reduceLE, Int.reduceNeg, Int.reduceEq, Int.reduceToNat]
    | with_reducible refine know_of fun _ => ?_
    | with_reducible refine ifD1 (by omega) ?_
    | with_reducible refine ifD0 (by omega) ?_
    | with_reducible refine ifE1 (by omega) ?_
    | with_reducible refine ifE0 (by omega) ?_
    | with_reducible refine ifN1 (by omega) ?_
    | with_reducible refine ifN0 (by omega) ?_
    | with_reducible refine ifD_of (fun _ => ?_) (fun _ => ?_)
    | with_reducible refine ifE_of (fun _ => ?_) (fun _ => ?_)
    | with_reducible refine ifN_of (fun _ => ?_) (fun _ => ?_)
    | with_reducible refine Go.V.if1 (by assumption) ?_
    | with_reducible refine Go.V.if0 (by assumption) ?_
    | with_reducible refine if_of (fun _ => ?_) (fun _ => ?_)
    | with_reducible refine s_of (idx_get _ _ _ (by omega) (by omega)) ?_
    | with_reducible refine s_of (idx_get _ _ _ (by omega) (by simp only [List.length_set, List.length_append, List.length_take, List.length_drop, List.length_reverse, List.length_singleton]; omega)) ?_
    | with_reducible refine s_of (map_get _ _ _ (by omega)) ?_
    | with_reducible refine s_of (map_get _ _ _ (by simp only [List.length_set]; omega)) ?_
    | with_reducible refine s_of (if_neg (by omega)) ?_
    | with_reducible refine s_of (if_pos (by omega)) ?_
    | with_reducible refine need_of (by omega) ?_
    | with_reducible refine nil_of (fun _ => ?_) ?_
    | with_reducible refine alt_of ?_ ?_
    | (with_reducible apply join_of; intro _ _)
    | with_reducible assumption)
  all_goals first | exact h | simpa using h
theorem make_same (a b : List Val) (d e k : Int) (Q : PV → Mem → Prop) (h0 : 0 ≤ k) (ha : k ≤ a.length) (hb : k ≤ b.length) (h : Q (vb (sameK k.toNat ⟨a, d⟩ ⟨b, e⟩)) []) : Does Try.prog 60 [.agg [.sl (a.map eV), vi d], .agg [.sl (b.map eV), vi e], .cad [vi k]] [] 0 Q := by
  refine does_of mixed Try.func60 rfl (by kernel_rfl) no (slots []) ?_
  simp only [Try.f60]
  repeat' (first
    | with_reducible refine need_of ⟨by omega, by omega, by omega, lenV _⟩ ?_
    | with_reducible refine need_of ⟨by omega, by omega, lenV _⟩ ?_
    | simp -implicitDefEqProofs only [go_sem, takeM, List.drop_zero, Nat.reduceAdd, Nat.reduceEqDiff, Nat.reduceLT, Nat.reduceBEq, Nat.reduceLeDiff, Nat.reduceSub, Int.reduceLE, Int.reduceNeg, Int.reduceEq, Int.reduceToNat]
    | with_reducible refine know_of fun _ => ?_
    | (with_reducible refine does_then (row_Same _ _ _ ?_))
    | with_reducible refine ifD1 (by omega) ?_
    | with_reducible refine ifD0 (by omega) ?_
    | with_reducible refine ifE1 (by omega) ?_
    | with_reducible refine ifE0 (by omega) ?_
    | with_reducible refine ifN1 (by omega) ?_
    | with_reducible refine ifN0 (by omega) ?_
    | with_reducible refine ifD_of (fun _ => ?_) (fun _ => ?_)
    | with_reducible refine ifE_of (fun _ => ?_) (fun _ => ?_)
    | with_reducible refine ifN_of (fun _ => ?_) (fun _ => ?_)
    | with_reducible refine Go.V.if1 (by assumption) ?_
    | with_reducible refine Go.V.if0 (by assumption) ?_
    | with_reducible refine if_of (fun _ => ?_) (fun _ => ?_)
    | with_reducible refine s_of (idx_get _ _ _ (by omega) (by omega)) ?_
    | with_reducible refine s_of (idx_get _ _ _ (by omega) (by simp only [List.length_set, List.length_append, List.length_take, List.length_drop, List.length_reverse, List.length_singleton]; omega)) ?_
    | with_reducible refine s_of (map_get _ _ _ (by omega)) ?_
    | with_reducible refine s_of (map_get _ _ _ (by simp only [List.length_set]; omega)) ?_
    | with_reducible refine s_of (if_neg (by omega)) ?_
    | with_reducible refine s_of (if_pos (by omega)) ?_
    | with_reducible refine need_of (by omega) ?_
    | with_reducible refine nil_of (fun _ => ?_) ?_
    | with_reducible refine alt_of ?_ ?_
    | (with_reducible apply join_of; intro _ _)
    | with_reducible assumption)
  all_goals exact h
theorem short_le {l : List Count} {k : Int} (h : l.any (shortG k) = false) : ∀ c ∈ l, k ≤ c.row.length := fun c hc => by
  have := List.any_eq_false.1 h c hc
  simp only [shortG, decide_eq_true_eq] at this
  omega
theorem less_rows {l : List Count} {k : Int} (h0 : (lessC l).2 = 0) (h : l.any (shortG k) = false) (hr : ∀ c ∈ l, c.row.length ≤ 1000000) : ∀ c ∈ (lessC l).1, k ≤ c.row.length ∧ c.row.length ≤ 1000000 := fun c hc => by
  obtain ⟨d, hd, e⟩ := (lessC_ok h0).2.2 c hc
  rw [← e]
  exact ⟨short_le h d hd, hr d hd⟩
theorem appGG (A B : List Count) : A.map eC ++ B.map eC = (A ++ B).map eC := by rw [List.map_append]
theorem notbad {l : List Count} {k : Int} (h0 : ¬ k < 0) (h : l.any (shortG k) = false) : ¬ (k < 0 ∨ l.any (shortG k) = true) := by
  rintro (hh | hh)
  · exact h0 hh
  · rw [h] at hh; cases hh
theorem known5 {kind n : Int} (h : knownG kind n = 0) (h5 : kind = 5) : 0 ≤ n ∧ n ≤ 9223372036854775807 := by
  unfold knownG at h
  split at h
  · omega
  · split at h <;> omega
def lenL (ps : List (List Count)) : Nat := (ps.map List.length).sum
theorem lenL_flat (ps : List (List Count)) : lenL ps = ps.flatten.length := by rw [List.length_flatten]; rfl
theorem piece_mem {p : Count → Count → Bool} {l : List Count} {x : List Count} (hx : x ∈ cutG p l) : ∀ c ∈ x, c ∈ l := fun c hc => by
  rw [← cutG_flat p l.length l (Nat.le_refl _)]
  exact List.mem_flatten.2 ⟨x, hx, hc⟩
theorem lenL_drop (ps : List (List Count)) (i : Nat) (h : i < ps.length) : lenL (ps.drop i) = (ps.getD i default).length + lenL (ps.drop (i + 1)) := by
  rw [drop_getD ps i h]; simp [lenL]
theorem lenL_cut (p : Count → Count → Bool) (l : List Count) : lenL (cutG p l) = l.length := by rw [lenL_flat, cutG_flat p l.length l (Nat.le_refl _)]
theorem group_of_nil (kind n : Int) (l : List Count) (Q : PV → Mem → Prop) (hl : l.length ≤ 1000000) (hr : ∀ c ∈ l, c.row.length ≤ 1000000) (hn : kind = 5 → 0 ≤ n ∧ n ≤ 9223372036854775807) (h : Q (.tup [.own 0, vi (ofG kind n [] l).2]) [.row 59 ((ofG kind n [] l).1.map eC)]) : Does Try.prog 62 [vi kind, vi n, .sl [], .sl (l.map eC)] [] 0 Q := group_of kind n [] l Q (by simp) hl hr hn h
theorem group_Make (kind key n : Int) (l : List Count) (Q : PV → Mem → Prop) (hl : l.length ≤ 1000000) (hr : ∀ c ∈ l, c.row.length ≤ 1000000) (h : Q (.tup [.own 0, vi (makeG kind key n l).2]) [.row 59 ((makeG kind key n l).1.map eC)]) : Does Try.prog 23 [vi kind, vi key, vi n, .sl (l.map eC)] [] 0 Q := by
  refine does_of mixed Try.func23 rfl (by kernel_rfl) no (slots [(0, [0, 2, 5, 14, 51, 52, 53])]) ?_
  simp only [Try.f23]
  repeat' (first
    | simp -implicitDefEqProofs only [go_sem, eC, Nat.reduceAdd, Nat.reduceEqDiff, Nat.reduceLT, Nat.reduceBEq, Nat.reduceLeDiff, Nat.reduceSub, Int.reduceLE, Int.reduceNeg, Int.reduceEq, Int.reduceToNat]
    | with_reducible refine know_of fun _ => ?_
    | (with_reducible refine does_then (contains_cnt _ _ _ (shortG _) _ (fun c _ Q hQ => make_short _ _ _ _ hQ) ?_))
    | (with_reducible refine does_then (group_known _ _ _ ?_))
    | (with_reducible refine does_then (zset_LessC _ _ (by omega) hr ?_))
    | with_reducible refine ifD1 (by omega) ?_
    | with_reducible refine ifD0 (by omega) ?_
    | with_reducible refine ifE1 (by omega) ?_
    | with_reducible refine ifE0 (by omega) ?_
    | with_reducible refine ifN1 (by omega) ?_
    | with_reducible refine ifN0 (by omega) ?_
    | with_reducible refine ifD_of (fun _ => ?_) (fun _ => ?_)
    | with_reducible refine ifE_of (fun _ => ?_) (fun _ => ?_)
    | with_reducible refine ifN_of (fun _ => ?_) (fun _ => ?_)
    | with_reducible refine Go.V.if1 (by assumption) ?_
    | with_reducible refine Go.V.if0 (by assumption) ?_
    | with_reducible refine if_of (fun _ => ?_) (fun _ => ?_)
    | with_reducible refine s_of (idx_get _ _ _ (by omega) (by omega)) ?_
    | with_reducible refine s_of (idx_get _ _ _ (by omega) (by simp only [List.length_set, List.length_append, List.length_take, List.length_drop, List.length_reverse, List.length_singleton]; omega)) ?_
    | with_reducible refine s_of (map_get _ _ _ (by omega)) ?_
    | with_reducible refine s_of (map_get _ _ _ (by simp only [List.length_set]; omega)) ?_
    | with_reducible refine s_of (if_neg (by omega)) ?_
    | with_reducible refine s_of (if_pos (by omega)) ?_
    | with_reducible refine need_of (by omega) ?_
    | with_reducible refine nil_of (fun _ => ?_) ?_
    | with_reducible refine alt_of ?_ ?_
    | (with_reducible apply join_of; intro _ _)
    | with_reducible assumption)
  · rw [makeG, if_pos (by omega)] at h; exact h
  · rw [makeG, if_pos (by omega)] at h; exact h
  · rw [makeG, if_neg (by omega), show keyK kind key = 0 from if_pos (by assumption), if_pos (.inr (by assumption))] at h; exact h
  · rw [makeG, if_neg (by omega), show keyK kind key = 0 from if_pos (by assumption), if_neg (notbad (by omega) (by assumption)), if_pos (by assumption)] at h; exact h
  · rw [makeG, if_neg (by omega), show keyK kind key = 0 from if_pos (by assumption), if_neg (notbad (by omega) (by assumption)), if_neg (by omega), if_pos (by assumption)] at h; exact h
  · have hlr := less_rows (k := 0) (by assumption) (by assumption) hr
    have hll := lessC_len l
    refine does_then (group_cut (lessC l).1 _ [vi 0] (sameK (0 : Int).toNat) _ (by omega) (fun x hx y hy Q hQ => make_same _ _ _ _ _ _ (by omega) (hlr x hx).1 (hlr y hy).1 hQ) ?_)
    have hps : ∀ x ∈ cutG (sameK (0 : Int).toNat) (lessC l).1, x ≠ [] ∧ ∀ c ∈ x, 0 ≤ (c.row.length : Int) ∧ c.row.length ≤ 1000000 := fun x hx => ⟨cutG_ne _ _ _ (Nat.le_refl _) x hx, fun c hc => hlr c (piece_mem hx c hc)⟩
    have hpl := lenL_cut (sameK (0 : Int).toNat) (lessC l).1
    have hm : makeG kind key n l = ofAll kind n (0 : Int).toNat (cutG (sameK (0 : Int).toNat) (lessC l).1) [] := by
      unfold makeG
      rw [if_neg (by omega), show keyK kind key = 0 from if_pos (by assumption), if_neg (notbad (by omega) (by assumption)), if_neg (by omega), if_neg (by omega)]
    rw [hm] at h
    clear hm
    generalize cutG (sameK (0 : Int).toNat) (lessC l).1 = ps at *
    repeat' (first
    | simp -implicitDefEqProofs only [go_sem, eC, Nat.reduceAdd, Nat.reduceEqDiff, Nat.reduceLT, Nat.reduceBEq, Nat.reduceLeDiff, Nat.reduceSub, Int.reduceLE, Int.reduceNeg, Int.reduceEq, Int.reduceToNat]
    | with_reducible refine know_of fun _ => ?_
    | with_reducible refine ifD1 (by omega) ?_
    | with_reducible refine ifD0 (by omega) ?_
    | with_reducible refine ifE1 (by omega) ?_
    | with_reducible refine ifE0 (by omega) ?_
    | with_reducible refine ifN1 (by omega) ?_
    | with_reducible refine ifN0 (by omega) ?_
    | with_reducible refine ifD_of (fun _ => ?_) (fun _ => ?_)
    | with_reducible refine ifE_of (fun _ => ?_) (fun _ => ?_)
    | with_reducible refine ifN_of (fun _ => ?_) (fun _ => ?_)
    | with_reducible refine Go.V.if1 (by assumption) ?_
    | with_reducible refine Go.V.if0 (by assumption) ?_
    | with_reducible refine if_of (fun _ => ?_) (fun _ => ?_)
    | with_reducible refine s_of (idx_get _ _ _ (by omega) (by omega)) ?_
    | with_reducible refine s_of (idx_get _ _ _ (by omega) (by simp only [List.length_set, List.length_append, List.length_take, List.length_drop, List.length_reverse, List.length_singleton]; omega)) ?_
    | with_reducible refine s_of (map_get _ _ _ (by omega)) ?_
    | with_reducible refine s_of (map_get _ _ _ (by simp only [List.length_set]; omega)) ?_
    | with_reducible refine s_of (if_neg (by omega)) ?_
    | with_reducible refine s_of (if_pos (by omega)) ?_
    | with_reducible refine need_of (by omega) ?_
    | with_reducible refine nil_of (fun _ => ?_) ?_
    | with_reducible refine alt_of ?_ ?_
    | (with_reducible apply join_of; intro _ _)
    | with_reducible assumption)
    generalize hres : ofAll kind n (0 : Int).toNat ps [] = res at h
    refine loop_then (loop_ind (σ := Nat × List Count) (fun s => [(0, vi kind), (2, vi n), (5, .adr 0 0), (14, .own 1), (51, .own 2), (52, vi ps.length), (53, vi s.1)]) (fun s => [.var [vi 0], .row 59 (s.2.map eC), .row 50 (ps.map eL)]) (fun s => ps.length - s.1) (fun s => s.1 ≤ ps.length ∧ s.2.length + lenL (ps.drop s.1) ≤ 1000000 ∧ ofAll kind n (0 : Int).toNat (ps.drop s.1) s.2 = res) ?_ (0, []) ⟨Nat.zero_le _, by simp only [List.length_nil, List.drop_zero]; omega, hres⟩)
    rintro X ⟨i, A⟩ ⟨hi, hA, hs⟩ ih
    try dsimp only at ih ⊢
    dsimp only at hi hA hs
    by_cases hil : i < ps.length
    · obtain ⟨hne, hrow⟩ := hps _ (getD_mem' ps i hil)
      have hdl := lenL_drop ps i hil
      have hpl0 : 0 < (ps.getD i default).length := List.length_pos_iff.2 hne
      have hr0 := hrow _ (getD_mem' (ps.getD i default) 0 hpl0)
      have hlo := ofG_len kind n [] (ps.getD i default) hne
      repeat' (first
      | with_reducible refine need_of ⟨by omega, by omega, by omega, lenV _⟩ ?_
      | with_reducible refine need_of ⟨by omega, by omega, lenV _⟩ ?_
      | with_reducible refine need_of ⟨by omega, lenV _⟩ ?_
      | with_reducible refine s_of (idx_get _ _ 0 (by omega) (by omega)) ?_
      | rw [appGG]
      | simp -implicitDefEqProofs only [go_sem, eC, eL, takeM, List.drop_zero, Int.toNat_natCast, Nat.reduceAdd, Nat.reduceEqDiff, Nat.reduceLT, Nat.reduceBEq, Nat.reduceLeDiff, Nat.reduceSub, Int.reduceLE, Int.reduceNeg, Int.reduceEq, Int.reduceToNat]
      | with_reducible refine know_of fun _ => ?_
      | (with_reducible refine does_then (group_of_nil _ _ _ _ (by omega) (fun c hc => (hrow c hc).2) (known5 (by assumption)) ?_))
      | with_reducible refine ifD1 (by omega) ?_
      | with_reducible refine ifD0 (by omega) ?_
      | with_reducible refine ifE1 (by omega) ?_
      | with_reducible refine ifE0 (by omega) ?_
      | with_reducible refine ifN1 (by omega) ?_
      | with_reducible refine ifN0 (by omega) ?_
      | with_reducible refine ifD_of (fun _ => ?_) (fun _ => ?_)
      | with_reducible refine ifE_of (fun _ => ?_) (fun _ => ?_)
      | with_reducible refine ifN_of (fun _ => ?_) (fun _ => ?_)
      | with_reducible refine Go.V.if1 (by assumption) ?_
      | with_reducible refine Go.V.if0 (by assumption) ?_
      | with_reducible refine if_of (fun _ => ?_) (fun _ => ?_)
      | with_reducible refine s_of (idx_get _ _ _ (by omega) (by omega)) ?_
      | with_reducible refine s_of (idx_get _ _ _ (by omega) (by simp only [List.length_set, List.length_append, List.length_take, List.length_drop, List.length_reverse, List.length_singleton]; omega)) ?_
      | with_reducible refine s_of (map_get _ _ _ (by omega)) ?_
      | with_reducible refine s_of (map_get _ _ _ (by simp only [List.length_set]; omega)) ?_
      | with_reducible refine s_of (if_neg (by omega)) ?_
      | with_reducible refine s_of (if_pos (by omega)) ?_
      | with_reducible refine need_of (by omega) ?_
      | with_reducible refine nil_of (fun _ => ?_) ?_
      | with_reducible refine alt_of ?_ ?_
      | (with_reducible apply join_of; intro _ _)
      | with_reducible assumption)
      all_goals rw [drop_getD ps i hil, ofAll] at hs
      all_goals simp only [show ((0 : Int)).toNat = 0 from rfl, List.take_zero] at hs
      · rw [if_pos (by assumption)] at hs
        rw [← hs] at h; exact h
      · rw [if_neg (by omega)] at hs
        rw [wnat i (by omega)]
        exact ih (i + 1, _) (by dsimp only; omega) ⟨by dsimp only; omega, by dsimp only; rw [List.length_append]; omega, hs⟩
    · repeat' (first
      | simp -implicitDefEqProofs only [go_sem, eC, eL, Nat.reduceAdd, Nat.reduceEqDiff, Nat.reduceLT, Nat.reduceBEq, Nat.reduceLeDiff, Nat.reduceSub, Int.reduceLE, Int.reduceNeg, Int.reduceEq, Int.reduceToNat]
      | with_reducible refine know_of fun _ => ?_
      | with_reducible refine ifD1 (by omega) ?_
      | with_reducible refine ifD0 (by omega) ?_
      | with_reducible refine ifE1 (by omega) ?_
      | with_reducible refine ifE0 (by omega) ?_
      | with_reducible refine ifN1 (by omega) ?_
      | with_reducible refine ifN0 (by omega) ?_
      | with_reducible refine ifD_of (fun _ => ?_) (fun _ => ?_)
      | with_reducible refine ifE_of (fun _ => ?_) (fun _ => ?_)
      | with_reducible refine ifN_of (fun _ => ?_) (fun _ => ?_)
      | with_reducible refine Go.V.if1 (by assumption) ?_
      | with_reducible refine Go.V.if0 (by assumption) ?_
      | with_reducible refine if_of (fun _ => ?_) (fun _ => ?_)
      | with_reducible refine s_of (idx_get _ _ _ (by omega) (by omega)) ?_
      | with_reducible refine s_of (idx_get _ _ _ (by omega) (by simp only [List.length_set, List.length_append, List.length_take, List.length_drop, List.length_reverse, List.length_singleton]; omega)) ?_
      | with_reducible refine s_of (map_get _ _ _ (by omega)) ?_
      | with_reducible refine s_of (map_get _ _ _ (by simp only [List.length_set]; omega)) ?_
      | with_reducible refine s_of (if_neg (by omega)) ?_
      | with_reducible refine s_of (if_pos (by omega)) ?_
      | with_reducible refine need_of (by omega) ?_
      | with_reducible refine nil_of (fun _ => ?_) ?_
      | with_reducible refine alt_of ?_ ?_
      | (with_reducible apply join_of; intro _ _)
      | with_reducible assumption)
      rw [List.drop_eq_nil_of_le (by omega), ofAll] at hs
      rw [← hs] at h; exact h

  · rw [makeG, if_neg (by omega), show keyK kind key = key from if_neg (by assumption), if_pos (.inl (by assumption))] at h; exact h
  · rw [makeG, if_neg (by omega), show keyK kind key = key from if_neg (by assumption), if_pos (.inr (by assumption))] at h; exact h
  · rw [makeG, if_neg (by omega), show keyK kind key = key from if_neg (by assumption), if_neg (notbad (by omega) (by assumption)), if_pos (by assumption)] at h; exact h
  · rw [makeG, if_neg (by omega), show keyK kind key = key from if_neg (by assumption), if_neg (notbad (by omega) (by assumption)), if_neg (by omega), if_pos (by assumption)] at h; exact h
  · have hlr := less_rows (k := key) (by assumption) (by assumption) hr
    have hll := lessC_len l
    refine does_then (group_cut (lessC l).1 _ [vi key] (sameK (key : Int).toNat) _ (by omega) (fun x hx y hy Q hQ => make_same _ _ _ _ _ _ (by omega) (hlr x hx).1 (hlr y hy).1 hQ) ?_)
    have hps : ∀ x ∈ cutG (sameK (key : Int).toNat) (lessC l).1, x ≠ [] ∧ ∀ c ∈ x, key ≤ (c.row.length : Int) ∧ c.row.length ≤ 1000000 := fun x hx => ⟨cutG_ne _ _ _ (Nat.le_refl _) x hx, fun c hc => hlr c (piece_mem hx c hc)⟩
    have hpl := lenL_cut (sameK (key : Int).toNat) (lessC l).1
    have hm : makeG kind key n l = ofAll kind n (key : Int).toNat (cutG (sameK (key : Int).toNat) (lessC l).1) [] := by
      unfold makeG
      rw [if_neg (by omega), show keyK kind key = key from if_neg (by assumption), if_neg (notbad (by omega) (by assumption)), if_neg (by omega), if_neg (by omega)]
    rw [hm] at h
    clear hm
    generalize cutG (sameK (key : Int).toNat) (lessC l).1 = ps at *
    repeat' (first
    | simp -implicitDefEqProofs only [go_sem, eC, Nat.reduceAdd, Nat.reduceEqDiff, Nat.reduceLT, Nat.reduceBEq, Nat.reduceLeDiff, Nat.reduceSub, Int.reduceLE, Int.reduceNeg, Int.reduceEq, Int.reduceToNat]
    | with_reducible refine know_of fun _ => ?_
    | with_reducible refine ifD1 (by omega) ?_
    | with_reducible refine ifD0 (by omega) ?_
    | with_reducible refine ifE1 (by omega) ?_
    | with_reducible refine ifE0 (by omega) ?_
    | with_reducible refine ifN1 (by omega) ?_
    | with_reducible refine ifN0 (by omega) ?_
    | with_reducible refine ifD_of (fun _ => ?_) (fun _ => ?_)
    | with_reducible refine ifE_of (fun _ => ?_) (fun _ => ?_)
    | with_reducible refine ifN_of (fun _ => ?_) (fun _ => ?_)
    | with_reducible refine Go.V.if1 (by assumption) ?_
    | with_reducible refine Go.V.if0 (by assumption) ?_
    | with_reducible refine if_of (fun _ => ?_) (fun _ => ?_)
    | with_reducible refine s_of (idx_get _ _ _ (by omega) (by omega)) ?_
    | with_reducible refine s_of (idx_get _ _ _ (by omega) (by simp only [List.length_set, List.length_append, List.length_take, List.length_drop, List.length_reverse, List.length_singleton]; omega)) ?_
    | with_reducible refine s_of (map_get _ _ _ (by omega)) ?_
    | with_reducible refine s_of (map_get _ _ _ (by simp only [List.length_set]; omega)) ?_
    | with_reducible refine s_of (if_neg (by omega)) ?_
    | with_reducible refine s_of (if_pos (by omega)) ?_
    | with_reducible refine need_of (by omega) ?_
    | with_reducible refine nil_of (fun _ => ?_) ?_
    | with_reducible refine alt_of ?_ ?_
    | (with_reducible apply join_of; intro _ _)
    | with_reducible assumption)
    generalize hres : ofAll kind n (key : Int).toNat ps [] = res at h
    refine loop_then (loop_ind (σ := Nat × List Count) (fun s => [(0, vi kind), (2, vi n), (5, .adr 0 0), (14, .own 1), (51, .own 2), (52, vi ps.length), (53, vi s.1)]) (fun s => [.var [vi key], .row 59 (s.2.map eC), .row 50 (ps.map eL)]) (fun s => ps.length - s.1) (fun s => s.1 ≤ ps.length ∧ s.2.length + lenL (ps.drop s.1) ≤ 1000000 ∧ ofAll kind n (key : Int).toNat (ps.drop s.1) s.2 = res) ?_ (0, []) ⟨Nat.zero_le _, by simp only [List.length_nil, List.drop_zero]; omega, hres⟩)
    rintro X ⟨i, A⟩ ⟨hi, hA, hs⟩ ih
    try dsimp only at ih ⊢
    dsimp only at hi hA hs
    by_cases hil : i < ps.length
    · obtain ⟨hne, hrow⟩ := hps _ (getD_mem' ps i hil)
      have hdl := lenL_drop ps i hil
      have hpl0 : 0 < (ps.getD i default).length := List.length_pos_iff.2 hne
      have hr0 := hrow _ (getD_mem' (ps.getD i default) 0 hpl0)
      have hlo := ofG_len kind n (((ps.getD i default).getD 0 default).row.take (key : Int).toNat) (ps.getD i default) hne
      repeat' (first
      | with_reducible refine need_of ⟨by omega, by omega, by omega, lenV _⟩ ?_
      | with_reducible refine need_of ⟨by omega, by omega, lenV _⟩ ?_
      | with_reducible refine need_of ⟨by omega, lenV _⟩ ?_
      | with_reducible refine s_of (idx_get _ _ 0 (by omega) (by omega)) ?_
      | rw [appGG]
      | simp -implicitDefEqProofs only [go_sem, eC, eL, takeM, List.drop_zero, Int.toNat_natCast, Nat.reduceAdd, Nat.reduceEqDiff, Nat.reduceLT, Nat.reduceBEq, Nat.reduceLeDiff, Nat.reduceSub, Int.reduceLE, Int.reduceNeg, Int.reduceEq, Int.reduceToNat]
      | with_reducible refine know_of fun _ => ?_
      | (with_reducible refine does_then (group_of _ _ _ _ _ (by rw [List.length_take]; omega) (by omega) (fun c hc => (hrow c hc).2) (known5 (by assumption)) ?_))
      | with_reducible refine ifD1 (by omega) ?_
      | with_reducible refine ifD0 (by omega) ?_
      | with_reducible refine ifE1 (by omega) ?_
      | with_reducible refine ifE0 (by omega) ?_
      | with_reducible refine ifN1 (by omega) ?_
      | with_reducible refine ifN0 (by omega) ?_
      | with_reducible refine ifD_of (fun _ => ?_) (fun _ => ?_)
      | with_reducible refine ifE_of (fun _ => ?_) (fun _ => ?_)
      | with_reducible refine ifN_of (fun _ => ?_) (fun _ => ?_)
      | with_reducible refine Go.V.if1 (by assumption) ?_
      | with_reducible refine Go.V.if0 (by assumption) ?_
      | with_reducible refine if_of (fun _ => ?_) (fun _ => ?_)
      | with_reducible refine s_of (idx_get _ _ _ (by omega) (by omega)) ?_
      | with_reducible refine s_of (idx_get _ _ _ (by omega) (by simp only [List.length_set, List.length_append, List.length_take, List.length_drop, List.length_reverse, List.length_singleton]; omega)) ?_
      | with_reducible refine s_of (map_get _ _ _ (by omega)) ?_
      | with_reducible refine s_of (map_get _ _ _ (by simp only [List.length_set]; omega)) ?_
      | with_reducible refine s_of (if_neg (by omega)) ?_
      | with_reducible refine s_of (if_pos (by omega)) ?_
      | with_reducible refine need_of (by omega) ?_
      | with_reducible refine nil_of (fun _ => ?_) ?_
      | with_reducible refine alt_of ?_ ?_
      | (with_reducible apply join_of; intro _ _)
      | with_reducible assumption)
      all_goals rw [drop_getD ps i hil, ofAll] at hs
      · rw [if_pos (by assumption)] at hs
        rw [← hs] at h; exact h
      · rw [if_neg (by omega)] at hs
        rw [wnat i (by omega)]
        exact ih (i + 1, _) (by dsimp only; omega) ⟨by dsimp only; omega, by dsimp only; rw [List.length_append]; omega, hs⟩
    · repeat' (first
      | simp -implicitDefEqProofs only [go_sem, eC, eL, Nat.reduceAdd, Nat.reduceEqDiff, Nat.reduceLT, Nat.reduceBEq, Nat.reduceLeDiff, Nat.reduceSub, Int.reduceLE, Int.reduceNeg, Int.reduceEq, Int.reduceToNat]
      | with_reducible refine know_of fun _ => ?_
      | with_reducible refine ifD1 (by omega) ?_
      | with_reducible refine ifD0 (by omega) ?_
      | with_reducible refine ifE1 (by omega) ?_
      | with_reducible refine ifE0 (by omega) ?_
      | with_reducible refine ifN1 (by omega) ?_
      | with_reducible refine ifN0 (by omega) ?_
      | with_reducible refine ifD_of (fun _ => ?_) (fun _ => ?_)
      | with_reducible refine ifE_of (fun _ => ?_) (fun _ => ?_)
      | with_reducible refine ifN_of (fun _ => ?_) (fun _ => ?_)
      | with_reducible refine Go.V.if1 (by assumption) ?_
      | with_reducible refine Go.V.if0 (by assumption) ?_
      | with_reducible refine if_of (fun _ => ?_) (fun _ => ?_)
      | with_reducible refine s_of (idx_get _ _ _ (by omega) (by omega)) ?_
      | with_reducible refine s_of (idx_get _ _ _ (by omega) (by simp only [List.length_set, List.length_append, List.length_take, List.length_drop, List.length_reverse, List.length_singleton]; omega)) ?_
      | with_reducible refine s_of (map_get _ _ _ (by omega)) ?_
      | with_reducible refine s_of (map_get _ _ _ (by simp only [List.length_set]; omega)) ?_
      | with_reducible refine s_of (if_neg (by omega)) ?_
      | with_reducible refine s_of (if_pos (by omega)) ?_
      | with_reducible refine need_of (by omega) ?_
      | with_reducible refine nil_of (fun _ => ?_) ?_
      | with_reducible refine alt_of ?_ ?_
      | (with_reducible apply join_of; intro _ _)
      | with_reducible assumption)
      rw [List.drop_eq_nil_of_le (by omega), ofAll] at hs
      rw [← hs] at h; exact h

end Go.V
