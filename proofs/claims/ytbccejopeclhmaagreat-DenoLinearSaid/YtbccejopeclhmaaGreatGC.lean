import Derived.Test.YtbccejopeclhmaaGreatGB
namespace Go.V
open Go Go.RowKit Go.Proofs
set_option maxRecDepth 100000
set_option maxHeartbeats 4000000
set_option linter.unusedVariables false
set_option linter.unusedSimpArgs false
def revOkG {α : Type} [Inhabited α] (l s : List α) (k : Nat) : Prop := s.length = l.length ∧ ∀ q, q < l.length → s[q]? = if q < k ∨ l.length ≤ q + k then l[l.length - 1 - q]? else l[q]?
theorem rev_doneG {α : Type} [Inhabited α] {l s : List α} {k : Nat} (h : revOkG l s k) (hk : l.length ≤ 2 * k + 1) : s = l.reverse := by
  obtain ⟨h1, h2⟩ := h
  apply List.ext_getElem? 
  intro q
  by_cases hq : q < l.length
  · rw [h2 q hq, List.getElem?_reverse hq]
    split
    · rfl
    · rw [show l.length - 1 - q = q by omega]
  · rw [List.getElem?_eq_none (by omega), List.getElem?_eq_none (by simp; omega)]
theorem rev_stepG {α : Type} [Inhabited α] {l s : List α} {k : Nat} (h : revOkG l s k) (hk : 2 * k + 1 < l.length) : revOkG l ((s.set k (s.getD (l.length - 1 - k) default)).set (l.length - 1 - k) (s.getD k default)) (k + 1) := by
  obtain ⟨h1, h2⟩ := h
  refine ⟨by simp [h1], fun q hq => ?_⟩
  have ga : s.getD k default = l.getD k default := by
    rw [List.getD_eq_getElem?_getD, h2 k (by omega), if_neg (by omega), List.getD_eq_getElem?_getD]
  have gb : s.getD (l.length - 1 - k) default = l.getD (l.length - 1 - k) default := by
    rw [List.getD_eq_getElem?_getD, h2 _ (by omega), if_neg (by omega), List.getD_eq_getElem?_getD]
  rw [ga, gb, List.getElem?_set, List.length_set]
  by_cases e1 : l.length - 1 - k = q
  · rw [if_pos e1, if_pos (by omega), if_pos (by omega), List.getD_eq_getElem?_getD, show l.length - 1 - q = k by omega, List.getElem?_eq_getElem (by omega)]; rfl
  · rw [if_neg e1, List.getElem?_set]
    by_cases e2 : k = q
    · rw [if_pos e2, if_pos (by omega), if_pos (by omega), List.getD_eq_getElem?_getD, e2, List.getElem?_eq_getElem (by omega)]; rfl
    · rw [if_neg e2, h2 q hq]
      by_cases e3 : q < k ∨ l.length ≤ q + k
      · rw [if_pos e3, if_pos (by omega)]
      · rw [if_neg e3, if_neg (by omega)]
theorem reverse_cnt (l : List Count) (Q : PV → Mem → Prop) (hll : l.length ≤ 1000000) (h : Q (.tup []) [.row 61 (l.reverse.map eC)]) : Does Tryz.prog 146 [.own 0] [.row 61 (l.map eC)] 1 Q := by
  refine does_of mixed Tryz.func146 rfl (by kernel_rfl) no (slots [(0, [0, 2, 3])]) ?_
  simp only [Tryz.f146]
  repeat' (first
    | rw [w64_of ((l.length : Int) - 1) (by omega)]
    | simp -implicitDefEqProofs only [go_sem, eC, Nat.reduceAdd, Nat.reduceEqDiff, Nat.reduceLT, Nat.reduceBEq, Nat.reduceLeDiff, Nat.reduceSub, Int.reduceLE, Int.reduceNeg, Int.reduceEq, Int.reduceToNat]
    | with_reducible refine know_of fun _ => ?_
    | with_reducible refine ifD1 (by omega) ?_
    | with_reducible refine ifD0 (by omega) ?_
    | with_reducible refine ifE1 (by omega) ?_
    | with_reducible refine ifE0 (by omega) ?_
    | with_reducible refine ifN1 (by omega) ?_
    | with_reducible refine ifN0 (by omega) ?_
    | with_reducible refine ifD_of (fun _ => ?_) (fun _ => ?_)
    | with_reducible refine ifE_of (fun _ => ?_) (fun _ => ?_)
    | with_reducible refine ifN_of (fun _ => ?_) (fun _ => ?_)
    | with_reducible refine Go.V.if1 (by assumption) ?_
    | with_reducible refine Go.V.if0 (by assumption) ?_
    | with_reducible refine if_of (fun _ => ?_) (fun _ => ?_)
    | with_reducible refine s_of (idx_get _ _ _ (by omega) (by omega)) ?_
    | with_reducible refine s_of (idx_get _ _ _ (by omega) (by simp only [List.length_set, List.length_append, List.length_take, List.length_drop, List.length_reverse, List.length_singleton]; omega)) ?_
    | with_reducible refine s_of (map_get _ _ _ (by omega)) ?_
    | with_reducible refine s_of (map_get _ _ _ (by simp only [List.length_set]; omega)) ?_
    | with_reducible refine s_of (if_neg (by omega)) ?_
    | with_reducible refine s_of (if_pos (by omega)) ?_
    | with_reducible refine need_of (by omega) ?_
    | with_reducible refine nil_of (fun _ => ?_) ?_
    | with_reducible refine alt_of ?_ ?_
    | (with_reducible apply join_of; intro _ _)
    | with_reducible assumption)
  refine loop_then (loop_ind (σ := Nat × Int × List Count) (fun s => [(0, .own 0), (2, vi s.1), (3, vi s.2.1)]) (fun s => [.row 61 (s.2.2.map eC)]) (fun s => l.length - s.1) (fun s => revOkG l s.2.2 s.1 ∧ 2 * s.1 ≤ l.length + 1 ∧ s.2.1 = (l.length : Int) - 1 - s.1) ?_ (0, (l.length : Int) - 1, l) ⟨⟨rfl, fun q hq => by rw [if_neg (by omega)]⟩, by dsimp only; omega, by dsimp only; omega⟩)
  rintro X ⟨k, j, s⟩ ⟨hs, hk, hj⟩ ih
  try dsimp only at ih ⊢
  dsimp only at hs hk hj
  have hl := hs.1
  repeat' (first
    | rw [setC]
    | rw [w64_of (j - 1) (by omega)]
    | simp -implicitDefEqProofs only [go_sem, eC, Int.toNat_natCast, Nat.reduceAdd, Nat.reduceEqDiff, Nat.reduceLT, Nat.reduceBEq, Nat.reduceLeDiff, Nat.reduceSub, Int.reduceLE, Int.reduceNeg, Int.reduceEq, Int.reduceToNat]
    | with_reducible refine know_of fun _ => ?_
    | with_reducible refine ifD1 (by omega) ?_
    | with_reducible refine ifD0 (by omega) ?_
    | with_reducible refine ifE1 (by omega) ?_
    | with_reducible refine ifE0 (by omega) ?_
    | with_reducible refine ifN1 (by omega) ?_
    | with_reducible refine ifN0 (by omega) ?_
    | with_reducible refine ifD_of (fun _ => ?_) (fun _ => ?_)
    | with_reducible refine ifE_of (fun _ => ?_) (fun _ => ?_)
    | with_reducible refine ifN_of (fun _ => ?_) (fun _ => ?_)
    | with_reducible refine Go.V.if1 (by assumption) ?_
    | with_reducible refine Go.V.if0 (by assumption) ?_
    | with_reducible refine if_of (fun _ => ?_) (fun _ => ?_)
    | with_reducible refine s_of (idx_get _ _ _ (by omega) (by omega)) ?_
    | with_reducible refine s_of (idx_get _ _ _ (by omega) (by simp only [List.length_set, List.length_append, List.length_take, List.length_drop, List.length_reverse, List.length_singleton]; omega)) ?_
    | with_reducible refine s_of (map_get _ _ _ (by omega)) ?_
    | with_reducible refine s_of (map_get _ _ _ (by simp only [List.length_set]; omega)) ?_
    | with_reducible refine s_of (if_neg (by omega)) ?_
    | with_reducible refine s_of (if_pos (by omega)) ?_
    | with_reducible refine need_of (by omega) ?_
    | with_reducible refine nil_of (fun _ => ?_) ?_
    | with_reducible refine alt_of ?_ ?_
    | (with_reducible apply join_of; intro _ _)
    | with_reducible assumption)
  · rw [wnat k (by omega)]
    have hr := rev_stepG hs (by omega)
    rw [show l.length - 1 - k = j.toNat by omega] at hr
    exact ih (k + 1, j - 1, _) (by dsimp only; omega) ⟨hr, by dsimp only; omega, by dsimp only; omega⟩
  · rw [rev_doneG hs (by omega)]; exact h
theorem group_top (n : Int) (l : List Count) (Q : PV → Mem → Prop) (hl : l.length ≤ 1000000) (hr : ∀ c ∈ l, c.row.length ≤ 1000000) (hd : ∀ c ∈ l, 0 < c.diff) (hn : 0 ≤ n) (hn2 : n ≤ 9223372036854775807) (h : Q (.own 0) [.row 61 ((topG n l).map eC)]) : Does Tryz.prog 147 [vi n, .sl (l.map eC)] [] 0 Q := by
  refine does_of mixed Tryz.func147 rfl (by kernel_rfl) no (slots [(0, [0, 5, 9, 10, 11])]) ?_
  simp only [Tryz.f147]
  repeat' (first
    | simp -implicitDefEqProofs only [go_sem, eC, Nat.reduceAdd, Nat.reduceEqDiff, Nat.reduceLT, Nat.reduceBEq, Nat.reduceLeDiff, Nat.reduceSub, Int.reduceLE, Int.reduceNeg, Int.reduceEq, Int.reduceToNat]
    | with_reducible refine know_of fun _ => ?_
    | with_reducible refine ifD1 (by omega) ?_
    | with_reducible refine ifD0 (by omega) ?_
    | with_reducible refine ifE1 (by omega) ?_
    | with_reducible refine ifE0 (by omega) ?_
    | with_reducible refine ifN1 (by omega) ?_
    | with_reducible refine ifN0 (by omega) ?_
    | with_reducible refine ifD_of (fun _ => ?_) (fun _ => ?_)
    | with_reducible refine ifE_of (fun _ => ?_) (fun _ => ?_)
    | with_reducible refine ifN_of (fun _ => ?_) (fun _ => ?_)
    | with_reducible refine Go.V.if1 (by assumption) ?_
    | with_reducible refine Go.V.if0 (by assumption) ?_
    | with_reducible refine if_of (fun _ => ?_) (fun _ => ?_)
    | with_reducible refine s_of (idx_get _ _ _ (by omega) (by omega)) ?_
    | with_reducible refine s_of (idx_get _ _ _ (by omega) (by simp only [List.length_set, List.length_append, List.length_take, List.length_drop, List.length_reverse, List.length_singleton]; omega)) ?_
    | with_reducible refine s_of (map_get _ _ _ (by omega)) ?_
    | with_reducible refine s_of (map_get _ _ _ (by simp only [List.length_set]; omega)) ?_
    | with_reducible refine s_of (if_neg (by omega)) ?_
    | with_reducible refine s_of (if_pos (by omega)) ?_
    | with_reducible refine need_of (by omega) ?_
    | with_reducible refine nil_of (fun _ => ?_) ?_
    | with_reducible refine alt_of ?_ ?_
    | (with_reducible apply join_of; intro _ _)
    | with_reducible assumption)
  refine loop_then (loop_ind (σ := Nat × Int × List Count) (fun s => [(0, vi s.2.1), (5, .own 0), (9, .sl (l.map eC)), (10, vi l.length), (11, vi s.1)]) (fun s => [.row 61 (s.2.2.map eC)]) (fun s => l.length - s.1) (fun s => s.1 ≤ l.length ∧ s.2.2.length = s.1 ∧ 0 ≤ s.2.1 ∧ s.2.1 ≤ 9223372036854775807 ∧ s.2.2 ++ topG s.2.1 (l.drop s.1) = topG n l) ?_ (0, n, []) ⟨Nat.zero_le _, rfl, hn, hn2, rfl⟩)
  rintro X ⟨i, k, A⟩ ⟨hi, hA, hk, hk2, hs⟩ ih
  try dsimp only at ih ⊢
  dsimp only at hi hA hk hk2 hs
  repeat' (first
    | rw [appC]
    | refine need_of (by simp only [List.length_append, List.length_map, List.length_singleton, List.length_take]; omega) ?_
    | simp -implicitDefEqProofs only [go_sem, eC, Int.toNat_natCast, Nat.reduceAdd, Nat.reduceEqDiff, Nat.reduceLT, Nat.reduceBEq, Nat.reduceLeDiff, Nat.reduceSub, Int.reduceLE, Int.reduceNeg, Int.reduceEq, Int.reduceToNat]
    | with_reducible refine know_of fun _ => ?_
    | (with_reducible refine does_then (clone_row _ _ (by have := hr _ (getD_mem' l i (by omega)); omega) ?_))
    | with_reducible refine ifD1 (by omega) ?_
    | with_reducible refine ifD0 (by omega) ?_
    | with_reducible refine ifE1 (by omega) ?_
    | with_reducible refine ifE0 (by omega) ?_
    | with_reducible refine ifN1 (by omega) ?_
    | with_reducible refine ifN0 (by omega) ?_
    | with_reducible refine ifD_of (fun _ => ?_) (fun _ => ?_)
    | with_reducible refine ifE_of (fun _ => ?_) (fun _ => ?_)
    | with_reducible refine ifN_of (fun _ => ?_) (fun _ => ?_)
    | with_reducible refine Go.V.if1 (by assumption) ?_
    | with_reducible refine Go.V.if0 (by assumption) ?_
    | with_reducible refine if_of (fun _ => ?_) (fun _ => ?_)
    | with_reducible refine s_of (idx_get _ _ _ (by omega) (by omega)) ?_
    | with_reducible refine s_of (idx_get _ _ _ (by omega) (by simp only [List.length_set, List.length_append, List.length_take, List.length_drop, List.length_reverse, List.length_singleton]; omega)) ?_
    | with_reducible refine s_of (map_get _ _ _ (by omega)) ?_
    | with_reducible refine s_of (map_get _ _ _ (by simp only [List.length_set]; omega)) ?_
    | with_reducible refine s_of (if_neg (by omega)) ?_
    | with_reducible refine s_of (if_pos (by omega)) ?_
    | with_reducible refine need_of (by omega) ?_
    | with_reducible refine nil_of (fun _ => ?_) ?_
    | with_reducible refine alt_of ?_ ?_
    | (with_reducible apply join_of; intro _ _)
    | with_reducible assumption)
  · rename_i h0
    rw [drop_getD l i (by omega), topG, if_pos (by exact h0), List.append_nil] at hs
    rw [hs]; exact h
  · rename_i h0 _ _
    have hdi := hd _ (getD_mem' l i (by omega))
    have hmk : minI (l.getD i default).diff k = if k < (l.getD i default).diff then k else (l.getD i default).diff := rfl
    rw [← hmk] at h0 ⊢
    have hm : 0 ≤ minI (l.getD i default).diff k ∧ minI (l.getD i default).diff k ≤ k := by rw [hmk]; split <;> omega
    rw [drop_getD l i (by omega), topG, if_neg h0] at hs
    rw [wnat i (by omega), w64_of _ (by omega)]
    exact ih (i + 1, _, _) (by dsimp only; omega) ⟨by dsimp only; omega, by dsimp only; rw [List.length_append, hA]; rfl, by dsimp only; omega, by dsimp only; omega, by dsimp only; rw [List.append_assoc]; exact hs⟩
  · rw [List.drop_eq_nil_of_le (by omega), topG, List.append_nil] at hs
    rw [hs]; exact h
end Go.V
