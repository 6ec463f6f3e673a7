import Derived.Test.YtbccejopeclhmaaGreatLK
import Derived.Test.YtbccejopeclhmaaGreatLL
namespace Go.V
open Go Go.RowKit Go.Proofs
set_option maxRecDepth 100000
set_option maxHeartbeats 4000000
set_option linter.unusedVariables false
set_option linter.unusedSimpArgs false
theorem linV_len (n : Node) (u : Up) : (linV n u).1.length ≤ 64 := by
  unfold linV
  (repeat' split) <;> first | exact Nat.zero_le _ | exact (by decide : (1 : Nat) ≤ 64) | (rw [List.length_map]; exact assign_len)
theorem mem_at {α : Type} [Inhabited α] {l : List α} {i : Nat} (h : i < l.length) : l.getD i default ∈ l := by
  rw [List.getD_eq_getElem?_getD, List.getElem?_eq_getElem h]; exact List.getElem_mem h
theorem appU (A B : List Up) : A.map eU ++ B.map eU = (A ++ B).map eU := by rw [List.map_append]
theorem appCC (A B : List Count) : A.map eC ++ B.map eC = (A ++ B).map eC := by rw [List.map_append]
def atU (t : Time) (l : List Up) : List Count := (l.filter fun u => leT u.time t).map fun u => ⟨u.row, u.diff⟩
theorem atU_t {t : Time} {l : List Up} {i : Nat} (h : i < l.length) (hl : leT (l.getD i default).time t = true) : atU t (l.take (i + 1)) = atU t (l.take i) ++ [⟨(l.getD i default).row, (l.getD i default).diff⟩] := by
  unfold atU
  rw [List.getD_eq_getElem?_getD, List.getElem?_eq_getElem h] at hl ⊢
  rw [List.take_add_one, List.getElem?_eq_getElem h, List.filter_append, List.map_append]
  simp at hl
  simp [hl]
theorem atU_f {t : Time} {l : List Up} {i : Nat} (h : i < l.length) (hl : leT (l.getD i default).time t = false) : atU t (l.take (i + 1)) = atU t (l.take i) := by
  unfold atU
  rw [List.getD_eq_getElem?_getD, List.getElem?_eq_getElem h] at hl
  rw [List.take_add_one, List.getElem?_eq_getElem h, List.filter_append, List.map_append]
  simp at hl
  simp [hl]
theorem atU_len (t : Time) (l : List Up) : (atU t l).length ≤ l.length := by unfold atU; rw [List.length_map]; exact List.length_filter_le _ _
theorem ref07_At (l : List Up) (a b : Int) (Q : PV → Mem → Prop) (hl : l.length ≤ 1000000) (h : Q (.tup [.own 0, vi (lessC (atU ⟨a, b⟩ l)).2]) [.row 61 ((lessC (atU ⟨a, b⟩ l)).1.map eC)]) : Does Tryz.prog 76 [.sl (l.map eU), .agg [vi a, vi b]] [] 0 Q := by
  refine does_of mixed Tryz.func76 rfl (by kernel_rfl) no (slots [(0, [0, 3, 6, 7])]) ?_
  simp only [Tryz.f76]
  repeat' (first
    | simp -implicitDefEqProofs only [go_sem, Nat.reduceAdd, Nat.reduceEqDiff, Nat.reduceLT, Nat.reduceBEq, Nat.reduceLeDiff, Nat.reduceSub, Int.reduceLE, Int.reduceNeg, Int.reduceEq, Int.reduceToNat]
    | with_reducible refine know_of fun _ => ?_
    | with_reducible refine ifD1 (by omega) ?_
    | with_reducible refine ifD0 (by omega) ?_
    | with_reducible refine ifE1 (by omega) ?_
    | with_reducible refine ifE0 (by omega) ?_
    | with_reducible refine ifN1 (by omega) ?_
    | with_reducible refine ifN0 (by omega) ?_
    | with_reducible refine ifD_of (fun _ => ?_) (fun _ => ?_)
    | with_reducible refine ifE_of (fun _ => ?_) (fun _ => ?_)
    | with_reducible refine ifN_of (fun _ => ?_) (fun _ => ?_)
    | with_reducible refine Go.V.if1 (by assumption) ?_
    | with_reducible refine Go.V.if0 (by assumption) ?_
    | with_reducible refine if_of (fun _ => ?_) (fun _ => ?_)
    | with_reducible refine s_of (idx_get _ _ _ (by omega) (by omega)) ?_
    | with_reducible refine s_of (idx_get _ _ _ (by omega) (by simp only [List.length_set, List.length_append, List.length_take, List.length_drop, List.length_reverse, List.length_singleton]; omega)) ?_
    | with_reducible refine s_of (map_get _ _ _ (by omega)) ?_
    | with_reducible refine s_of (map_get _ _ _ (by simp only [List.length_set]; omega)) ?_
    | with_reducible refine s_of (if_neg (by omega)) ?_
    | with_reducible refine s_of (if_pos (by omega)) ?_
    | with_reducible refine need_of (by omega) ?_
    | with_reducible refine nil_of (fun _ => ?_) ?_
    | with_reducible refine alt_of ?_ ?_
    | (with_reducible apply join_of; intro _ _)
    | with_reducible assumption)
  refine loop_then (loop_ind (σ := Nat) (fun s => [(0, .sl (l.map eU)), (3, .adr 0 0), (6, .own 1), (7, vi s)]) (fun s => [.var [vi a, vi b], .row 61 ((atU ⟨a, b⟩ (l.take s)).map eC)]) (fun s => l.length - s) (fun s => s ≤ l.length) ?_ 0 (Nat.zero_le _))
  rintro X i hi ih
  try dsimp only at ih ⊢
  have hal := atU_len ⟨a, b⟩ (l.take i)
  rw [List.length_take] at hal
  by_cases hil : i < l.length
  · repeat' (first
    | rw [appC]
    | simp -implicitDefEqProofs only [go_sem, eU, Int.toNat_natCast, Nat.reduceAdd, Nat.reduceEqDiff, Nat.reduceLT, Nat.reduceBEq, Nat.reduceLeDiff, Nat.reduceSub, Int.reduceLE, Int.reduceNeg, Int.reduceEq, Int.reduceToNat]
    | with_reducible refine know_of fun _ => ?_
    | (with_reducible refine does_then (ref04_LessEq _ _ _ _ _ ?_))
    | with_reducible refine ifD1 (by omega) ?_
    | with_reducible refine ifD0 (by omega) ?_
    | with_reducible refine ifE1 (by omega) ?_
    | with_reducible refine ifE0 (by omega) ?_
    | with_reducible refine ifN1 (by omega) ?_
    | with_reducible refine ifN0 (by omega) ?_
    | with_reducible refine ifD_of (fun _ => ?_) (fun _ => ?_)
    | with_reducible refine ifE_of (fun _ => ?_) (fun _ => ?_)
    | with_reducible refine ifN_of (fun _ => ?_) (fun _ => ?_)
    | with_reducible refine Go.V.if1 (by assumption) ?_
    | with_reducible refine Go.V.if0 (by assumption) ?_
    | with_reducible refine if_of (fun _ => ?_) (fun _ => ?_)
    | with_reducible refine s_of (idx_get _ _ _ (by omega) (by omega)) ?_
    | with_reducible refine s_of (idx_get _ _ _ (by omega) (by simp only [List.length_set, List.length_append, List.length_take, List.length_drop, List.length_reverse, List.length_singleton]; omega)) ?_
    | with_reducible refine s_of (map_get _ _ _ (by omega)) ?_
    | with_reducible refine s_of (map_get _ _ _ (by simp only [List.length_set]; omega)) ?_
    | with_reducible refine s_of (if_neg (by omega)) ?_
    | with_reducible refine s_of (if_pos (by omega)) ?_
    | with_reducible refine need_of (by omega) ?_
    | with_reducible refine nil_of (fun _ => ?_) ?_
    | with_reducible refine alt_of ?_ ?_
    | (with_reducible apply join_of; intro _ _)
    | with_reducible assumption)
    · rw [wnat i (by omega)]; have q := ih (i + 1) (by omega) (by omega); rw [atU_t hil (by assumption)] at q; exact q
    · rw [wnat i (by omega)]; have q := ih (i + 1) (by omega) (by omega); rw [atU_f hil (by assumption)] at q; exact q
  · rw [List.take_of_length_le (by omega)] at hal ⊢
    repeat' (first
    | simp -implicitDefEqProofs only [go_sem, eU, Int.toNat_natCast, Nat.reduceAdd, Nat.reduceEqDiff, Nat.reduceLT, Nat.reduceBEq, Nat.reduceLeDiff, Nat.reduceSub, Int.reduceLE, Int.reduceNeg, Int.reduceEq, Int.reduceToNat]
    | with_reducible refine know_of fun _ => ?_
    | (with_reducible refine does_then (ref07_Less _ _ (by omega) ?_))
    | with_reducible refine ifD1 (by omega) ?_
    | with_reducible refine ifD0 (by omega) ?_
    | with_reducible refine ifE1 (by omega) ?_
    | with_reducible refine ifE0 (by omega) ?_
    | with_reducible refine ifN1 (by omega) ?_
    | with_reducible refine ifN0 (by omega) ?_
    | with_reducible refine ifD_of (fun _ => ?_) (fun _ => ?_)
    | with_reducible refine ifE_of (fun _ => ?_) (fun _ => ?_)
    | with_reducible refine ifN_of (fun _ => ?_) (fun _ => ?_)
    | with_reducible refine Go.V.if1 (by assumption) ?_
    | with_reducible refine Go.V.if0 (by assumption) ?_
    | with_reducible refine if_of (fun _ => ?_) (fun _ => ?_)
    | with_reducible refine s_of (idx_get _ _ _ (by omega) (by omega)) ?_
    | with_reducible refine s_of (idx_get _ _ _ (by omega) (by simp only [List.length_set, List.length_append, List.length_take, List.length_drop, List.length_reverse, List.length_singleton]; omega)) ?_
    | with_reducible refine s_of (map_get _ _ _ (by omega)) ?_
    | with_reducible refine s_of (map_get _ _ _ (by simp only [List.length_set]; omega)) ?_
    | with_reducible refine s_of (if_neg (by omega)) ?_
    | with_reducible refine s_of (if_pos (by omega)) ?_
    | with_reducible refine need_of (by omega) ?_
    | with_reducible refine nil_of (fun _ => ?_) ?_
    | with_reducible refine alt_of ?_ ?_
    | (with_reducible apply join_of; intro _ _)
    | with_reducible assumption)
    all_goals first | (exfalso; omega) | exact h
end Go.V
