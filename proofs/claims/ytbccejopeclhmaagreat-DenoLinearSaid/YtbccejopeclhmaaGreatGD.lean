import Derived.Test.YtbccejopeclhmaaGreatGC
namespace Go.V
open Go Go.RowKit Go.Proofs
set_option maxRecDepth 100000
set_option maxHeartbeats 4000000
set_option linter.unusedVariables false
set_option linter.unusedSimpArgs false
def ofG (kind n : Int) (key : List Val) (l : List Count) : List Count × Int :=
  if kind = 1 then countG key l else if kind = 2 then sumG key n l else if kind = 4 then (topG 1 ((someG l).reverse.take 1), 0) else if kind = 3 then (topG 1 ((someG l).take 1), 0) else if kind = 5 then (topG n (someG l), 0) else ((someG l).map fun c => ⟨c.row, 1⟩, 0)
theorem some_pos {l : List Count} : ∀ c ∈ someG l, 0 < c.diff := fun c hc => by
  have := (List.mem_filter.1 hc).2
  simp only [Bool.not_eq_true', decide_eq_false_iff_not] at this
  omega
theorem some_mem {l : List Count} : ∀ c ∈ someG l, c ∈ l := fun c hc => (List.mem_filter.1 hc).1
theorem some_len (l : List Count) : (someG l).length ≤ l.length := List.length_filter_le _ _
theorem take_min {α : Type} (l : List α) : l.take (if (1 : Int) < (l.length : Int) then (1 : Int) else (l.length : Int)).toNat = l.take 1 := by
  split
  · rfl
  · rw [Int.toNat_natCast, List.take_length, List.take_of_length_le (by omega)]
theorem once_step (l : List Count) (i : Nat) (h : i < l.length) : ((l.take i).map fun c => (⟨c.row, 1⟩ : Count)).map eC ++ (onceG (l.getD i default).row).map eC = ((l.take (i + 1)).map fun c => (⟨c.row, 1⟩ : Count)).map eC := by rw [take_cons' l i h]; simp [onceG]
theorem group_of (kind n : Int) (key : List Val) (l : List Count) (Q : PV → Mem → Prop) (hk : key.length ≤ 1000000) (hl : l.length ≤ 1000000) (hr : ∀ c ∈ l, c.row.length ≤ 1000000) (hn : kind = 5 → 0 ≤ n ∧ n ≤ 9223372036854775807) (h : Q (.tup [.own 0, vi (ofG kind n key l).2]) [.row 61 ((ofG kind n key l).1.map eC)]) : Does Tryz.prog 98 [vi kind, vi n, .sl (key.map eV), .sl (l.map eC)] [] 0 Q := by
  refine does_of mixed Tryz.func98 rfl (by kernel_rfl) lentG (slots [(6, [11, 48, 49, 50])]) ?_
  simp only [Tryz.f98]
  have hsl := some_len l
  repeat' (first
    | refine need_of (by simp only [List.length_reverse]; omega) ?_
    | simp -implicitDefEqProofs only [go_sem, eC, takeM, List.drop_zero, Nat.reduceAdd, Nat.reduceEqDiff, Nat.reduceLT, Nat.reduceBEq, Nat.reduceLeDiff, Nat.reduceSub, Int.reduceLE, Int.reduceNeg, Int.reduceEq, Int.reduceToNat]
    | with_reducible refine know_of fun _ => ?_
    | (with_reducible refine does_then (group_some _ _ (by omega) ?_))
    | (with_reducible refine does_then (group_count _ _ _ (by omega) (by omega) ?_))
    | (with_reducible refine does_then (group_sum _ _ _ _ (by omega) (by omega) ?_))
    | (with_reducible refine does_then (reverse_cnt _ _ (by omega) ?_))
    | (with_reducible refine does_then (group_top _ _ _ (by simp only [List.length_take, List.length_reverse]; omega) (fun c hc => hr c (some_mem c (by first | exact hc | exact List.mem_of_mem_take hc | exact List.mem_reverse.1 (List.mem_of_mem_take hc)))) (fun c hc => some_pos c (by first | exact hc | exact List.mem_of_mem_take hc | exact List.mem_reverse.1 (List.mem_of_mem_take hc))) (by omega) (by omega) ?_))
    | with_reducible refine ifD1 (by omega) ?_
    | with_reducible refine ifD0 (by omega) ?_
    | with_reducible refine ifE1 (by omega) ?_
    | with_reducible refine ifE0 (by omega) ?_
    | with_reducible refine ifN1 (by omega) ?_
    | with_reducible refine ifN0 (by omega) ?_
    | with_reducible refine ifD_of (fun _ => ?_) (fun _ => ?_)
    | with_reducible refine ifE_of (fun _ => ?_) (fun _ => ?_)
    | with_reducible refine ifN_of (fun _ => ?_) (fun _ => ?_)
    | with_reducible refine Go.V.if1 (by assumption) ?_
    | with_reducible refine Go.V.if0 (by assumption) ?_
    | with_reducible refine if_of (fun _ => ?_) (fun _ => ?_)
    | with_reducible refine s_of (idx_get _ _ _ (by omega) (by omega)) ?_
    | with_reducible refine s_of (idx_get _ _ _ (by omega) (by simp only [List.length_set, List.length_append, List.length_take, List.length_drop, List.length_reverse, List.length_singleton]; omega)) ?_
    | with_reducible refine s_of (map_get _ _ _ (by omega)) ?_
    | with_reducible refine s_of (map_get _ _ _ (by simp only [List.length_set]; omega)) ?_
    | with_reducible refine s_of (if_neg (by omega)) ?_
    | with_reducible refine s_of (if_pos (by omega)) ?_
    | with_reducible refine need_of (by omega) ?_
    | with_reducible refine nil_of (fun _ => ?_) ?_
    | with_reducible refine alt_of ?_ ?_
    | (with_reducible apply join_of; intro _ _)
    | with_reducible assumption)
  · rw [ofG, if_pos (by assumption)] at h; exact h
  · rw [ofG, if_neg (by assumption), if_pos (by assumption)] at h; exact h
  · rw [ofG, if_neg (by assumption), if_neg (by assumption), if_pos (by assumption)] at h
    rw [take_min]; exact h
  · rw [ofG, if_neg (by assumption), if_neg (by assumption), if_neg (by assumption), if_pos (by assumption)] at h
    rw [take_min]; exact h
  · have hn' := hn (by assumption)
    refine does_then (group_top _ _ _ (by omega) (fun c hc => hr c (some_mem c hc)) (fun c hc => some_pos c hc) (by omega) (by omega) ?_)
    repeat' (first
    | simp -implicitDefEqProofs only [go_sem, eC, Nat.reduceAdd, Nat.reduceEqDiff, Nat.reduceLT, Nat.reduceBEq, Nat.reduceLeDiff, Nat.reduceSub, Int.reduceLE, Int.reduceNeg, Int.reduceEq, Int.reduceToNat]
    | with_reducible refine know_of fun _ => ?_
    | with_reducible refine ifD1 (by omega) ?_
    | with_reducible refine ifD0 (by omega) ?_
    | with_reducible refine ifE1 (by omega) ?_
    | with_reducible refine ifE0 (by omega) ?_
    | with_reducible refine ifN1 (by omega) ?_
    | with_reducible refine ifN0 (by omega) ?_
    | with_reducible refine ifD_of (fun _ => ?_) (fun _ => ?_)
    | with_reducible refine ifE_of (fun _ => ?_) (fun _ => ?_)
    | with_reducible refine ifN_of (fun _ => ?_) (fun _ => ?_)
    | with_reducible refine Go.V.if1 (by assumption) ?_
    | with_reducible refine Go.V.if0 (by assumption) ?_
    | with_reducible refine if_of (fun _ => ?_) (fun _ => ?_)
    | with_reducible refine s_of (idx_get _ _ _ (by omega) (by omega)) ?_
    | with_reducible refine s_of (idx_get _ _ _ (by omega) (by simp only [List.length_set, List.length_append, List.length_take, List.length_drop, List.length_reverse, List.length_singleton]; omega)) ?_
    | with_reducible refine s_of (map_get _ _ _ (by omega)) ?_
    | with_reducible refine s_of (map_get _ _ _ (by simp only [List.length_set]; omega)) ?_
    | with_reducible refine s_of (if_neg (by omega)) ?_
    | with_reducible refine s_of (if_pos (by omega)) ?_
    | with_reducible refine need_of (by omega) ?_
    | with_reducible refine nil_of (fun _ => ?_) ?_
    | with_reducible refine alt_of ?_ ?_
    | (with_reducible apply join_of; intro _ _)
    | with_reducible assumption)
    rw [ofG, if_neg (by assumption), if_neg (by assumption), if_neg (by assumption), if_neg (by assumption), if_pos (by assumption)] at h; exact h
  rw [ofG, if_neg (by assumption), if_neg (by assumption), if_neg (by assumption), if_neg (by assumption), if_neg (by assumption)] at h
  refine loop_then (loop_ind (σ := Nat) (fun s => [(11, .own 0), (48, .own 1), (49, vi (someG l).length), (50, vi s)]) (fun s => [.row 61 ((((someG l).take s).map fun c => (⟨c.row, 1⟩ : Count)).map eC), .row 61 ((someG l).map eC)]) (fun s => (someG l).length - s) (fun s => s ≤ (someG l).length) ?_ 0 (Nat.zero_le _))
  rintro X i hi ih
  try dsimp only at ih ⊢
  repeat' (first
    | refine need_of (by simp only [List.length_append, List.length_map, List.length_take, onceG, List.length_singleton]; omega) ?_
    | simp -implicitDefEqProofs only [go_sem, eC, Int.toNat_natCast, Nat.reduceAdd, Nat.reduceEqDiff, Nat.reduceLT, Nat.reduceBEq, Nat.reduceLeDiff, Nat.reduceSub, Int.reduceLE, Int.reduceNeg, Int.reduceEq, Int.reduceToNat]
    | with_reducible refine know_of fun _ => ?_
    | (with_reducible refine does_then (group_once _ _ (by have := hr _ (some_mem _ (getD_mem' (someG l) i (by omega))); omega) ?_))
    | with_reducible refine ifD1 (by omega) ?_
    | with_reducible refine ifD0 (by omega) ?_
    | with_reducible refine ifE1 (by omega) ?_
    | with_reducible refine ifE0 (by omega) ?_
    | with_reducible refine ifN1 (by omega) ?_
    | with_reducible refine ifN0 (by omega) ?_
    | with_reducible refine ifD_of (fun _ => ?_) (fun _ => ?_)
    | with_reducible refine ifE_of (fun _ => ?_) (fun _ => ?_)
    | with_reducible refine ifN_of (fun _ => ?_) (fun _ => ?_)
    | with_reducible refine Go.V.if1 (by assumption) ?_
    | with_reducible refine Go.V.if0 (by assumption) ?_
    | with_reducible refine if_of (fun _ => ?_) (fun _ => ?_)
    | with_reducible refine s_of (idx_get _ _ _ (by omega) (by omega)) ?_
    | with_reducible refine s_of (idx_get _ _ _ (by omega) (by simp only [List.length_set, List.length_append, List.length_take, List.length_drop, List.length_reverse, List.length_singleton]; omega)) ?_
    | with_reducible refine s_of (map_get _ _ _ (by omega)) ?_
    | with_reducible refine s_of (map_get _ _ _ (by simp only [List.length_set]; omega)) ?_
    | with_reducible refine s_of (if_neg (by omega)) ?_
    | with_reducible refine s_of (if_pos (by omega)) ?_
    | with_reducible refine need_of (by omega) ?_
    | with_reducible refine nil_of (fun _ => ?_) ?_
    | with_reducible refine alt_of ?_ ?_
    | (with_reducible apply join_of; intro _ _)
    | with_reducible assumption)
  · rw [wnat i (by omega), once_step _ i (by omega)]; exact ih (i + 1) (by omega) (by omega)
  · rw [List.take_of_length_le (by omega)]; exact h
end Go.V
