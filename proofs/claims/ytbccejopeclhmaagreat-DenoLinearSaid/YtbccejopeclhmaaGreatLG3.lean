import Derived.Test.YtbccejopeclhmaaGreatLG2
import Derived.Test.YtbccejopeclhmaaGreatL9
namespace Go.V
open Go Go.RowKit Go.Proofs
set_option maxRecDepth 100000
set_option maxHeartbeats 4000000
set_option linter.unusedVariables false
set_option linter.unusedSimpArgs false
def revOk (l s : List Int) (k : Nat) : Prop := s.length = l.length ∧ ∀ q, q < l.length → s[q]? = if q < k ∨ l.length ≤ q + k then l[l.length - 1 - q]? else l[q]?
theorem rev_done {l s : List Int} {k : Nat} (h : revOk l s k) (hk : l.length ≤ 2 * k + 1) : s = l.reverse := by
  obtain ⟨h1, h2⟩ := h
  apply List.ext_getElem? 
  intro q
  by_cases hq : q < l.length
  · rw [h2 q hq, List.getElem?_reverse hq]
    split
    · rfl
    · rw [show l.length - 1 - q = q by omega]
  · rw [List.getElem?_eq_none (by omega), List.getElem?_eq_none (by simp; omega)]
theorem rev_step {l s : List Int} {k : Nat} (h : revOk l s k) (hk : 2 * k + 1 < l.length) : revOk l ((s.set k (s.getD (l.length - 1 - k) default)).set (l.length - 1 - k) (s.getD k default)) (k + 1) := by
  obtain ⟨h1, h2⟩ := h
  refine ⟨by simp [h1], fun q hq => ?_⟩
  have ga : s.getD k default = l.getD k default := by
    rw [List.getD_eq_getElem?_getD, h2 k (by omega), if_neg (by omega), List.getD_eq_getElem?_getD]
  have gb : s.getD (l.length - 1 - k) default = l.getD (l.length - 1 - k) default := by
    rw [List.getD_eq_getElem?_getD, h2 _ (by omega), if_neg (by omega), List.getD_eq_getElem?_getD]
  rw [ga, gb, List.getElem?_set, List.length_set]
  by_cases e1 : l.length - 1 - k = q
  · rw [if_pos e1, if_pos (by omega), if_pos (by omega), List.getD_eq_getElem?_getD, show l.length - 1 - q = k by omega, List.getElem?_eq_getElem (by omega)]; rfl
  · rw [if_neg e1, List.getElem?_set]
    by_cases e2 : k = q
    · rw [if_pos e2, if_pos (by omega), if_pos (by omega), List.getD_eq_getElem?_getD, e2, List.getElem?_eq_getElem (by omega)]; rfl
    · rw [if_neg e2, h2 q hq]
      by_cases e3 : q < k ∨ l.length ≤ q + k
      · rw [if_pos e3, if_pos (by omega)]
      · rw [if_neg e3, if_neg (by omega)]
theorem setI (s : List Int) (k : Nat) (x : Int) : (s.map eI).set k [vi x] = (s.set k x).map eI := by rw [List.map_set]; rfl
theorem reverse_int (l : List Int) (Q : PV → Mem → Prop)  (h : Q (.tup []) [.row 3 (l.reverse.map eI)]) : Does Tryz.prog 202 [.own 0] [.row 3 (l.map eI)] 1 Q := by
  refine does_of mixed Tryz.func202 rfl (by kernel_rfl) no (slots [(0, [0, 2, 3])]) ?_
  simp only [Tryz.f202]
  repeat' (first
    | rw [w64_of ((l.length : Int) - 1) (by omega)]
    | simp -implicitDefEqProofs only [go_sem, eI, Nat.reduceAdd, Nat.reduceEqDiff, Nat.reduceLT, Nat.reduceBEq, Nat.reduceLeDiff, Nat.reduceSub, Int.reduceLE, Int.reduceNeg, Int.reduceEq, Int.reduceToNat]
    | with_reducible refine know_of fun _ => ?_
    | with_reducible refine ifD1 (by omega) ?_
    | with_reducible refine ifD0 (by omega) ?_
    | with_reducible refine ifE1 (by omega) ?_
    | with_reducible refine ifE0 (by omega) ?_
    | with_reducible refine ifN1 (by omega) ?_
    | with_reducible refine ifN0 (by omega) ?_
    | with_reducible refine ifD_of (fun _ => ?_) (fun _ => ?_)
    | with_reducible refine ifE_of (fun _ => ?_) (fun _ => ?_)
    | with_reducible refine ifN_of (fun _ => ?_) (fun _ => ?_)
    | with_reducible refine Go.V.if1 (by assumption) ?_
    | with_reducible refine Go.V.if0 (by assumption) ?_
    | with_reducible refine if_of (fun _ => ?_) (fun _ => ?_)
    | with_reducible refine s_of (idx_get _ _ _ (by omega) (by omega)) ?_
    | with_reducible refine s_of (idx_get _ _ _ (by omega) (by simp only [List.length_set, List.length_append, List.length_take, List.length_drop, List.length_reverse, List.length_singleton]; omega)) ?_
    | with_reducible refine s_of (map_get _ _ _ (by omega)) ?_
    | with_reducible refine s_of (map_get _ _ _ (by simp only [List.length_set]; omega)) ?_
    | with_reducible refine s_of (if_neg (by omega)) ?_
    | with_reducible refine s_of (if_pos (by omega)) ?_
    | with_reducible refine need_of (by omega) ?_
    | with_reducible refine nil_of (fun _ => ?_) ?_
    | with_reducible refine alt_of ?_ ?_
    | (with_reducible apply join_of; intro _ _)
    | with_reducible assumption)
  refine loop_then (loop_ind (σ := Nat × Int × List Int) (fun s => [(0, .own 0), (2, vi s.1), (3, vi s.2.1)]) (fun s => [.row 3 (s.2.2.map eI)]) (fun s => l.length - s.1) (fun s => revOk l s.2.2 s.1 ∧ 2 * s.1 ≤ l.length + 1 ∧ s.2.1 = (l.length : Int) - 1 - s.1) ?_ (0, (l.length : Int) - 1, l) ⟨⟨rfl, fun q hq => by rw [if_neg (by omega)]⟩, by dsimp only; omega, by dsimp only; omega⟩)
  rintro X ⟨k, j, s⟩ ⟨hs, hk, hj⟩ ih
  try dsimp only at ih ⊢
  dsimp only at hs hk hj
  have hl := hs.1
  repeat' (first
    | rw [setI]
    | rw [w64_of (j - 1) (by omega)]
    | simp -implicitDefEqProofs only [go_sem, eI, Int.toNat_natCast, Nat.reduceAdd, Nat.reduceEqDiff, Nat.reduceLT, Nat.reduceBEq, Nat.reduceLeDiff, Nat.reduceSub, Int.reduceLE, Int.reduceNeg, Int.reduceEq, Int.reduceToNat]
    | with_reducible refine know_of fun _ => ?_
    | with_reducible refine ifD1 (by omega) ?_
    | with_reducible refine ifD0 (by omega) ?_
    | with_reducible refine ifE1 (by omega) ?_
    | with_reducible refine ifE0 (by omega) ?_
    | with_reducible refine ifN1 (by omega) ?_
    | with_reducible refine ifN0 (by omega) ?_
    | with_reducible refine ifD_of (fun _ => ?_) (fun _ => ?_)
    | with_reducible refine ifE_of (fun _ => ?_) (fun _ => ?_)
    | with_reducible refine ifN_of (fun _ => ?_) (fun _ => ?_)
    | with_reducible refine Go.V.if1 (by assumption) ?_
    | with_reducible refine Go.V.if0 (by assumption) ?_
    | with_reducible refine if_of (fun _ => ?_) (fun _ => ?_)
    | with_reducible refine s_of (idx_get _ _ _ (by omega) (by omega)) ?_
    | with_reducible refine s_of (idx_get _ _ _ (by omega) (by simp only [List.length_set, List.length_append, List.length_take, List.length_drop, List.length_reverse, List.length_singleton]; omega)) ?_
    | with_reducible refine s_of (map_get _ _ _ (by omega)) ?_
    | with_reducible refine s_of (map_get _ _ _ (by simp only [List.length_set]; omega)) ?_
    | with_reducible refine s_of (if_neg (by omega)) ?_
    | with_reducible refine s_of (if_pos (by omega)) ?_
    | with_reducible refine need_of (by omega) ?_
    | with_reducible refine nil_of (fun _ => ?_) ?_
    | with_reducible refine alt_of ?_ ?_
    | (with_reducible apply join_of; intro _ _)
    | with_reducible assumption)
  · rw [wnat k (by omega)]
    have hr := rev_step hs (by omega)
    rw [show l.length - 1 - k = j.toNat by omega] at hr
    exact ih (k + 1, j - 1, _) (by dsimp only; omega) ⟨hr, by dsimp only; omega, by dsimp only; omega⟩
  · rw [rev_done hs (by omega)]; exact h
end Go.V
