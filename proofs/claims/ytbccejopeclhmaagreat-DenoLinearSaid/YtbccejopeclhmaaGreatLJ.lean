import Derived.Test.YtbccejopeclhmaaGreatLG
namespace Go.V
open Go Go.RowKit Go.Proofs
set_option maxRecDepth 100000
set_option maxHeartbeats 4000000
set_option linter.unusedVariables false
set_option linter.unusedSimpArgs false
def orderR : List Val → List Val → Int
  | [], [] => 0
  | [], _ :: _ => -1
  | _ :: _, [] => 1
  | a :: l, b :: r => if cmpV a b ≠ 0 then cmpV a b else orderR l r
def orderT (a b : Time) : Int := if a.epoch = b.epoch ∧ a.round = b.round then 0 else if a.epoch < b.epoch ∨ a.epoch = b.epoch ∧ a.round < b.round then -1 else 1
def orderU (a b : Up) : Int := if orderR a.row b.row ≠ 0 then orderR a.row b.row else orderT a.time b.time
def sameC : List Count → List Count → Bool
  | [], [] => true
  | c :: l, d :: r => if orderR c.row d.row ≠ 0 ∨ c.diff ≠ d.diff then false else sameC l r
  | _, _ => false
def sameU : List Up → List Up → Bool
  | [], [] => true
  | c :: l, d :: r => if orderU c d ≠ 0 ∨ c.diff ≠ d.diff then false else sameU l r
  | _, _ => false
theorem sameC_len : ∀ {a b : List Count}, a.length ≠ b.length → sameC a b = false
  | [], [], h => absurd rfl h
  | [], _ :: _, _ => rfl
  | _ :: _, [], _ => rfl
  | c :: l, d :: r, h => by
    rw [sameC]; split
    · rfl
    · exact sameC_len (by simpa using h)
theorem sameU_len : ∀ {a b : List Up}, a.length ≠ b.length → sameU a b = false
  | [], [], h => absurd rfl h
  | [], _ :: _, _ => rfl
  | _ :: _, [], _ => rfl
  | c :: l, d :: r, h => by
    rw [sameU]; split
    · rfl
    · exact sameU_len (by simpa using h)
theorem ref03_Order (a b : List Val) (Q : PV → Mem → Prop)  (h : Q (vi (orderR a b)) []) : Does Tryz.prog 61 [.sl (a.map eV), .sl (b.map eV)] [] 0 Q := by
  refine does_of mixed Tryz.func61 rfl (by kernel_rfl) no (slots [(0, [0, 1, 5])]) ?_
  simp only [Tryz.f61]
  repeat' (first
    | simp -implicitDefEqProofs only [go_sem, eV, Nat.reduceAdd, Nat.reduceEqDiff, Nat.reduceLT, Nat.reduceBEq, Nat.reduceLeDiff, Nat.reduceSub, Int.reduceLE, Int.reduceNeg, Int.reduceEq, Int.reduceToNat]
    | with_reducible refine know_of fun _ => ?_
    | with_reducible refine ifD1 (by omega) ?_
    | with_reducible refine ifD0 (by omega) ?_
    | with_reducible refine ifE1 (by omega) ?_
    | with_reducible refine ifE0 (by omega) ?_
    | with_reducible refine ifN1 (by omega) ?_
    | with_reducible refine ifN0 (by omega) ?_
    | with_reducible refine ifD_of (fun _ => ?_) (fun _ => ?_)
    | with_reducible refine ifE_of (fun _ => ?_) (fun _ => ?_)
    | with_reducible refine ifN_of (fun _ => ?_) (fun _ => ?_)
    | with_reducible refine Go.V.if1 (by assumption) ?_
    | with_reducible refine Go.V.if0 (by assumption) ?_
    | with_reducible refine if_of (fun _ => ?_) (fun _ => ?_)
    | with_reducible refine s_of (idx_get _ _ _ (by omega) (by omega)) ?_
    | with_reducible refine s_of (idx_get _ _ _ (by omega) (by simp only [List.length_set, List.length_append, List.length_take, List.length_drop, List.length_reverse, List.length_singleton]; omega)) ?_
    | with_reducible refine s_of (map_get _ _ _ (by omega)) ?_
    | with_reducible refine s_of (map_get _ _ _ (by simp only [List.length_set]; omega)) ?_
    | with_reducible refine s_of (if_neg (by omega)) ?_
    | with_reducible refine s_of (if_pos (by omega)) ?_
    | with_reducible refine need_of (by omega) ?_
    | with_reducible refine nil_of (fun _ => ?_) ?_
    | with_reducible refine alt_of ?_ ?_
    | (with_reducible apply join_of; intro _ _)
    | with_reducible assumption)
  refine loop_then (loop_ind (σ := Nat) (fun s => [(0, .sl (a.map eV)), (1, .sl (b.map eV)), (5, vi s)]) (fun s => []) (fun s => a.length - s) (fun s => s ≤ a.length ∧ s ≤ b.length ∧ Q (vi (orderR (a.drop s) (b.drop s))) []) ?_ 0 ⟨Nat.zero_le _, Nat.zero_le _, h⟩)
  rintro X i ⟨ha, hb, hQ⟩ ih
  try dsimp only at ih ⊢
  repeat' (first
    | simp -implicitDefEqProofs only [go_sem, eV, Int.toNat_natCast, Nat.reduceAdd, Nat.reduceEqDiff, Nat.reduceLT, Nat.reduceBEq, Nat.reduceLeDiff, Nat.reduceSub, Int.reduceLE, Int.reduceNeg, Int.reduceEq, Int.reduceToNat]
    | with_reducible refine know_of fun _ => ?_
    | (with_reducible refine does_then (ref03_Cmp _ _ _ _ _ _ _ ?_))
    | with_reducible refine ifD1 (by omega) ?_
    | with_reducible refine ifD0 (by omega) ?_
    | with_reducible refine ifE1 (by omega) ?_
    | with_reducible refine ifE0 (by omega) ?_
    | with_reducible refine ifN1 (by omega) ?_
    | with_reducible refine ifN0 (by omega) ?_
    | with_reducible refine ifD_of (fun _ => ?_) (fun _ => ?_)
    | with_reducible refine ifE_of (fun _ => ?_) (fun _ => ?_)
    | with_reducible refine ifN_of (fun _ => ?_) (fun _ => ?_)
    | with_reducible refine Go.V.if1 (by assumption) ?_
    | with_reducible refine Go.V.if0 (by assumption) ?_
    | with_reducible refine if_of (fun _ => ?_) (fun _ => ?_)
    | with_reducible refine s_of (idx_get _ _ _ (by omega) (by omega)) ?_
    | with_reducible refine s_of (idx_get _ _ _ (by omega) (by simp only [List.length_set, List.length_append, List.length_take, List.length_drop, List.length_reverse, List.length_singleton]; omega)) ?_
    | with_reducible refine s_of (map_get _ _ _ (by omega)) ?_
    | with_reducible refine s_of (map_get _ _ _ (by simp only [List.length_set]; omega)) ?_
    | with_reducible refine s_of (if_neg (by omega)) ?_
    | with_reducible refine s_of (if_pos (by omega)) ?_
    | with_reducible refine need_of (by omega) ?_
    | with_reducible refine nil_of (fun _ => ?_) ?_
    | with_reducible refine alt_of ?_ ?_
    | (with_reducible apply join_of; intro _ _)
    | with_reducible assumption)
  all_goals first
    | (rw [drop_getD a i (by omega), drop_getD b i (by omega), orderR, if_pos (by assumption)] at hQ; exact hQ)
    | (rw [drop_getD a i (by omega), drop_getD b i (by omega), orderR, if_neg (not_not_intro (by assumption))] at hQ; rw [wnat i (by omega)]; exact ih (i + 1) (by omega) ⟨by omega, by omega, hQ⟩)
    | (rw [List.drop_eq_nil_of_le (show a.length ≤ i by omega), drop_getD b i (by omega), orderR] at hQ; exact hQ)
    | (rw [List.drop_eq_nil_of_le (show b.length ≤ i by omega), drop_getD a i (by omega), orderR] at hQ; exact hQ)
    | (rw [List.drop_eq_nil_of_le (show b.length ≤ i by omega), List.drop_eq_nil_of_le (show a.length ≤ i by omega), orderR] at hQ; exact hQ)
    | (exfalso; omega)
theorem ref07_SameCounts (a b : List Count) (Q : PV → Mem → Prop)  (h : Q (vb (sameC a b)) []) : Does Tryz.prog 21 [.sl (a.map eC), .sl (b.map eC)] [] 0 Q := by
  refine does_of mixed Tryz.func21 rfl (by kernel_rfl) no (slots [(0, [0, 1, 5])]) ?_
  simp only [Tryz.f21]
  repeat' (first
    | simp -implicitDefEqProofs only [go_sem, eC, Nat.reduceAdd, Nat.reduceEqDiff, Nat.reduceLT, Nat.reduceBEq, Nat.reduceLeDiff, Nat.reduceSub, Int.reduceLE, Int.reduceNeg, Int.reduceEq, Int.reduceToNat]
    | with_reducible refine know_of fun _ => ?_
    | with_reducible refine ifD1 (by omega) ?_
    | with_reducible refine ifD0 (by omega) ?_
    | with_reducible refine ifE1 (by omega) ?_
    | with_reducible refine ifE0 (by omega) ?_
    | with_reducible refine ifN1 (by omega) ?_
    | with_reducible refine ifN0 (by omega) ?_
    | with_reducible refine ifD_of (fun _ => ?_) (fun _ => ?_)
    | with_reducible refine ifE_of (fun _ => ?_) (fun _ => ?_)
    | with_reducible refine ifN_of (fun _ => ?_) (fun _ => ?_)
    | with_reducible refine Go.V.if1 (by assumption) ?_
    | with_reducible refine Go.V.if0 (by assumption) ?_
    | with_reducible refine if_of (fun _ => ?_) (fun _ => ?_)
    | with_reducible refine s_of (idx_get _ _ _ (by omega) (by omega)) ?_
    | with_reducible refine s_of (idx_get _ _ _ (by omega) (by simp only [List.length_set, List.length_append, List.length_take, List.length_drop, List.length_reverse, List.length_singleton]; omega)) ?_
    | with_reducible refine s_of (map_get _ _ _ (by omega)) ?_
    | with_reducible refine s_of (map_get _ _ _ (by simp only [List.length_set]; omega)) ?_
    | with_reducible refine s_of (if_neg (by omega)) ?_
    | with_reducible refine s_of (if_pos (by omega)) ?_
    | with_reducible refine need_of (by omega) ?_
    | with_reducible refine nil_of (fun _ => ?_) ?_
    | with_reducible refine alt_of ?_ ?_
    | (with_reducible apply join_of; intro _ _)
    | with_reducible assumption)
  · rw [sameC_len (by omega)] at h; exact h
  refine loop_then (loop_ind (σ := Nat) (fun s => [(0, .sl (a.map eC)), (1, .sl (b.map eC)), (5, vi s)]) (fun s => []) (fun s => a.length - s) (fun s => s ≤ a.length ∧ Q (vb (sameC (a.drop s) (b.drop s))) []) ?_ 0 ⟨Nat.zero_le _, h⟩)
  rintro X i ⟨ha, hQ⟩ ih
  try dsimp only at ih ⊢
  repeat' (first
    | simp -implicitDefEqProofs only [go_sem, eC, Int.toNat_natCast, Nat.reduceAdd, Nat.reduceEqDiff, Nat.reduceLT, Nat.reduceBEq, Nat.reduceLeDiff, Nat.reduceSub, Int.reduceLE, Int.reduceNeg, Int.reduceEq, Int.reduceToNat]
    | with_reducible refine know_of fun _ => ?_
    | (with_reducible refine does_then (ref03_Order _ _ _ ?_))
    | with_reducible refine ifD1 (by omega) ?_
    | with_reducible refine ifD0 (by omega) ?_
    | with_reducible refine ifE1 (by omega) ?_
    | with_reducible refine ifE0 (by omega) ?_
    | with_reducible refine ifN1 (by omega) ?_
    | with_reducible refine ifN0 (by omega) ?_
    | with_reducible refine ifD_of (fun _ => ?_) (fun _ => ?_)
    | with_reducible refine ifE_of (fun _ => ?_) (fun _ => ?_)
    | with_reducible refine ifN_of (fun _ => ?_) (fun _ => ?_)
    | with_reducible refine Go.V.if1 (by assumption) ?_
    | with_reducible refine Go.V.if0 (by assumption) ?_
    | with_reducible refine if_of (fun _ => ?_) (fun _ => ?_)
    | with_reducible refine s_of (idx_get _ _ _ (by omega) (by omega)) ?_
    | with_reducible refine s_of (idx_get _ _ _ (by omega) (by simp only [List.length_set, List.length_append, List.length_take, List.length_drop, List.length_reverse, List.length_singleton]; omega)) ?_
    | with_reducible refine s_of (map_get _ _ _ (by omega)) ?_
    | with_reducible refine s_of (map_get _ _ _ (by simp only [List.length_set]; omega)) ?_
    | with_reducible refine s_of (if_neg (by omega)) ?_
    | with_reducible refine s_of (if_pos (by omega)) ?_
    | with_reducible refine need_of (by omega) ?_
    | with_reducible refine nil_of (fun _ => ?_) ?_
    | with_reducible refine alt_of ?_ ?_
    | (with_reducible apply join_of; intro _ _)
    | with_reducible assumption)
  all_goals first
    | (rw [drop_getD a i (by omega), drop_getD b i (by omega), sameC, if_pos (.inl (by assumption))] at hQ; exact hQ)
    | (rw [drop_getD a i (by omega), drop_getD b i (by omega), sameC, if_pos (.inr (by assumption))] at hQ; exact hQ)
    | (rw [drop_getD a i (by omega), drop_getD b i (by omega), sameC, if_neg (not_or.2 ⟨not_not_intro (by assumption), not_not_intro (by assumption)⟩)] at hQ; rw [wnat i (by omega)]; exact ih (i + 1) (by omega) ⟨by omega, hQ⟩)
    | (rw [List.drop_eq_nil_of_le (show b.length ≤ i by omega), List.drop_eq_nil_of_le (show a.length ≤ i by omega), sameC] at hQ; exact hQ)
theorem ref03_Same (a b : List Val) (Q : PV → Mem → Prop)  (h : Q (vb (orderR a b == 0)) []) : Does Tryz.prog 49 [.sl (a.map eV), .sl (b.map eV)] [] 0 Q := by
  refine does_of mixed Tryz.func49 rfl (by kernel_rfl) no (slots []) ?_
  simp only [Tryz.f49]
  repeat' (first
    | simp -implicitDefEqProofs only [go_sem, Nat.reduceAdd, Nat.reduceEqDiff, Nat.reduceLT, Nat.reduceBEq, Nat.reduceLeDiff, Nat.reduceSub, Int.reduceLE, Int.reduceNeg, Int.reduceEq, Int.reduceToNat]
    | with_reducible refine know_of fun _ => ?_
    | (with_reducible refine does_then (ref03_Order _ _ _ ?_))
    | with_reducible refine ifD1 (by omega) ?_
    | with_reducible refine ifD0 (by omega) ?_
    | with_reducible refine ifE1 (by omega) ?_
    | with_reducible refine ifE0 (by omega) ?_
    | with_reducible refine ifN1 (by omega) ?_
    | with_reducible refine ifN0 (by omega) ?_
    | with_reducible refine ifD_of (fun _ => ?_) (fun _ => ?_)
    | with_reducible refine ifE_of (fun _ => ?_) (fun _ => ?_)
    | with_reducible refine ifN_of (fun _ => ?_) (fun _ => ?_)
    | with_reducible refine Go.V.if1 (by assumption) ?_
    | with_reducible refine Go.V.if0 (by assumption) ?_
    | with_reducible refine if_of (fun _ => ?_) (fun _ => ?_)
    | with_reducible refine s_of (idx_get _ _ _ (by omega) (by omega)) ?_
    | with_reducible refine s_of (idx_get _ _ _ (by omega) (by simp only [List.length_set, List.length_append, List.length_take, List.length_drop, List.length_reverse, List.length_singleton]; omega)) ?_
    | with_reducible refine s_of (map_get _ _ _ (by omega)) ?_
    | with_reducible refine s_of (map_get _ _ _ (by simp only [List.length_set]; omega)) ?_
    | with_reducible refine s_of (if_neg (by omega)) ?_
    | with_reducible refine s_of (if_pos (by omega)) ?_
    | with_reducible refine need_of (by omega) ?_
    | with_reducible refine nil_of (fun _ => ?_) ?_
    | with_reducible refine alt_of ?_ ?_
    | (with_reducible apply join_of; intro _ _)
    | with_reducible assumption)
  all_goals first | exact h | simpa using h
end Go.V
