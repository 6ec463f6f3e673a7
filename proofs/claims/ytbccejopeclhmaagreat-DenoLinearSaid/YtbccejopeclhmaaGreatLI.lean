import Derived.Test.YtbccejopeclhmaaGreatLH
namespace Go.V
open Go Go.RowKit Go.Proofs
set_option maxRecDepth 100000
set_option maxHeartbeats 4000000
set_option linter.unusedVariables false
set_option linter.unusedSimpArgs false
theorem window_Assign (r : List Val) (col size slide : Int) (Q : PV → Mem → Prop)  (h : Q (.tup [.own 0, vi (assignW r col size slide).2]) [.row 59 ((assignW r col size slide).1.map eR)]) : Does Tryz.prog 115 [.sl (r.map eV), vi col, vi size, vi slide] [] 0 Q := by
  refine does_of mixed Tryz.func115 rfl (by kernel_rfl) no (slots [(1, [0, 12, 49, 50, 51])]) ?_
  simp only [Tryz.f115]
  repeat' (first
    | simp -implicitDefEqProofs only [go_sem, eV, Nat.reduceAdd, Nat.reduceEqDiff, Nat.reduceLT, Nat.reduceBEq, Nat.reduceLeDiff, Nat.reduceSub, Int.reduceLE, Int.reduceNeg, Int.reduceEq, Int.reduceToNat]
    | with_reducible refine know_of fun _ => ?_
    | (with_reducible refine does_then (window_Buckets _ _ _ _ ?_))
    | with_reducible refine ifD1 (by omega) ?_
    | with_reducible refine ifD0 (by omega) ?_
    | with_reducible refine ifE1 (by omega) ?_
    | with_reducible refine ifE0 (by omega) ?_
    | with_reducible refine ifN1 (by omega) ?_
    | with_reducible refine ifN0 (by omega) ?_
    | with_reducible refine ifD_of (fun _ => ?_) (fun _ => ?_)
    | with_reducible refine ifE_of (fun _ => ?_) (fun _ => ?_)
    | with_reducible refine ifN_of (fun _ => ?_) (fun _ => ?_)
    | with_reducible refine Go.V.if1 (by assumption) ?_
    | with_reducible refine Go.V.if0 (by assumption) ?_
    | with_reducible refine if_of (fun _ => ?_) (fun _ => ?_)
    | with_reducible refine s_of (idx_get _ _ _ (by omega) (by omega)) ?_
    | with_reducible refine s_of (idx_get _ _ _ (by omega) (by simp only [List.length_set, List.length_append, List.length_take, List.length_drop, List.length_reverse, List.length_singleton]; omega)) ?_
    | with_reducible refine s_of (map_get _ _ _ (by omega)) ?_
    | with_reducible refine s_of (map_get _ _ _ (by simp only [List.length_set]; omega)) ?_
    | with_reducible refine s_of (if_neg (by omega)) ?_
    | with_reducible refine s_of (if_pos (by omega)) ?_
    | with_reducible refine need_of (by omega) ?_
    | with_reducible refine nil_of (fun _ => ?_) ?_
    | with_reducible refine alt_of ?_ ?_
    | (with_reducible apply join_of; intro _ _)
    | with_reducible assumption)
  all_goals first
    | (unfold assignW at h; rw [if_pos (by omega)] at h; exact h)
    | (unfold assignW at h; rw [if_neg (by omega), if_pos (by omega)] at h; exact h)
    | (unfold assignW at h; rw [if_neg (by omega), if_neg (by omega), if_pos (by assumption)] at h; exact h)
    | (unfold assignW at h; rw [if_neg (by omega), if_neg (by omega), if_neg (not_not_intro (by assumption)), if_pos (by assumption)] at h; exact h)
    | skip
  unfold assignW at h
  rw [if_neg (by omega), if_neg (by omega), if_neg (not_not_intro (by assumption)), if_neg (not_not_intro (by assumption))] at h
  have hbl := bucks_len (v := (r.getD col.toNat default).int) (size := size) (slide := slide)
  generalize (bucketsW (r.getD col.toNat default).int size slide).1 = bs at *
  rw [rowA_eq] at h
  refine loop_then (loop_ind (σ := Nat) (fun s => [(0, .sl (r.map eV)), (12, .own 0), (49, .own 1), (50, vi bs.length), (51, vi s)]) (fun s => [.row 59 ((bs.take s).map (rowA r)), .row 3 (bs.map eI)]) (fun s => bs.length - s) (fun s => s ≤ bs.length) ?_ 0 (Nat.zero_le _))
  rintro X i hi ih
  try dsimp only at ih ⊢
  repeat' (first
    | simp -implicitDefEqProofs only [go_sem, eV, eI, Int.toNat_natCast, List.length_take, Nat.reduceAdd, Nat.reduceEqDiff, Nat.reduceLT, Nat.reduceBEq, Nat.reduceLeDiff, Nat.reduceSub, Int.reduceLE, Int.reduceNeg, Int.reduceEq, Int.reduceToNat]
    | with_reducible refine know_of fun _ => ?_
    | (with_reducible refine does_then (row_Join1 _ _ _ (by omega) ?_))
    | with_reducible refine ifD1 (by omega) ?_
    | with_reducible refine ifD0 (by omega) ?_
    | with_reducible refine ifE1 (by omega) ?_
    | with_reducible refine ifE0 (by omega) ?_
    | with_reducible refine ifN1 (by omega) ?_
    | with_reducible refine ifN0 (by omega) ?_
    | with_reducible refine ifD_of (fun _ => ?_) (fun _ => ?_)
    | with_reducible refine ifE_of (fun _ => ?_) (fun _ => ?_)
    | with_reducible refine ifN_of (fun _ => ?_) (fun _ => ?_)
    | with_reducible refine Go.V.if1 (by assumption) ?_
    | with_reducible refine Go.V.if0 (by assumption) ?_
    | with_reducible refine if_of (fun _ => ?_) (fun _ => ?_)
    | with_reducible refine s_of (idx_get _ _ _ (by omega) (by omega)) ?_
    | with_reducible refine s_of (idx_get _ _ _ (by omega) (by simp only [List.length_set, List.length_append, List.length_take, List.length_drop, List.length_reverse, List.length_singleton]; omega)) ?_
    | with_reducible refine s_of (map_get _ _ _ (by omega)) ?_
    | with_reducible refine s_of (map_get _ _ _ (by simp only [List.length_set]; omega)) ?_
    | with_reducible refine s_of (if_neg (by omega)) ?_
    | with_reducible refine s_of (if_pos (by omega)) ?_
    | with_reducible refine need_of (by omega) ?_
    | with_reducible refine nil_of (fun _ => ?_) ?_
    | with_reducible refine alt_of ?_ ?_
    | (with_reducible apply join_of; intro _ _)
    | with_reducible assumption)
  · rw [wnat i (by omega)]
    have ht := takeS (rowA r) bs i (by omega)
    unfold rowA at ht ⊢
    rw [ht]; exact ih (i + 1) (by omega) (by omega)
  · rw [List.take_of_length_le (by omega)]; exact h
theorem ref14_Assign (r : List Val) (col size slide : Int) (Q : PV → Mem → Prop)  (h : Q (.tup [.own 0, vi (assignW r col size slide).2]) [.row 59 ((assignW r col size slide).1.map eR)]) : Does Tryz.prog 210 [.sl (r.map eV), vi col, vi size, vi slide] [] 0 Q := by
  refine does_ofT mixed Tryz.func210 rfl (treesT [(14, (.one 0 (.one 2 (.one 4 (.one 5 (.one 6 (.alt (.one 1 (.alt (.one 3 (.one 7 (.one 8 (.one 9 (.one 10 (.one 11 (.one 12 (.one 13 .nil)))))))) (.one 7 (.alt (.one 3 (.one 8 (.one 9 (.one 10 (.one 11 (.one 12 (.one 13 .nil))))))) (.one 8 (.alt (.one 3 (.one 9 (.one 10 (.one 11 (.one 12 (.one 13 .nil)))))) (.one 9 (.one 3 (.one 10 (.one 11 (.one 12 (.one 13 .nil)))))))))))) (.one 7 (.alt (.one 1 (.alt (.one 3 (.one 8 (.one 9 (.one 10 (.one 11 (.one 12 (.one 13 .nil))))))) (.one 8 (.alt (.one 3 (.one 9 (.one 10 (.one 11 (.one 12 (.one 13 .nil)))))) (.one 9 (.one 3 (.one 10 (.one 11 (.one 12 (.one 13 .nil)))))))))) (.one 8 (.alt (.one 1 (.alt (.one 3 (.one 9 (.one 10 (.one 11 (.one 12 (.one 13 .nil)))))) (.one 9 (.one 3 (.one 10 (.one 11 (.one 12 (.one 13 .nil)))))))) (.one 9 (.one 1 (.one 3 (.one 10 (.one 11 (.one 12 (.one 13 .nil)))))))))))))))), [0, 10, 12, 13]))]) (by kernel_rfl) no (slots [(0, [0, 10, 12, 13])]) ?_
  simp only [Tryz.f210]
  repeat' (first
    | simp -implicitDefEqProofs only [go_sem, eV, Nat.reduceAdd, Nat.reduceEqDiff, Nat.reduceLT, Nat.reduceBEq, Nat.reduceLeDiff, Nat.reduceSub, Int.reduceLE, Int.reduceNeg, Int.reduceEq, Int.reduceToNat]
    | with_reducible refine know_of fun _ => ?_
    | (with_reducible refine does_then (ref14_Buckets _ _ _ _ ?_))
    | with_reducible refine ifD1 (by omega) ?_
    | with_reducible refine ifD0 (by omega) ?_
    | with_reducible refine ifE1 (by omega) ?_
    | with_reducible refine ifE0 (by omega) ?_
    | with_reducible refine ifN1 (by omega) ?_
    | with_reducible refine ifN0 (by omega) ?_
    | with_reducible refine ifD_of (fun _ => ?_) (fun _ => ?_)
    | with_reducible refine ifE_of (fun _ => ?_) (fun _ => ?_)
    | with_reducible refine ifN_of (fun _ => ?_) (fun _ => ?_)
    | with_reducible refine Go.V.if1 (by assumption) ?_
    | with_reducible refine Go.V.if0 (by assumption) ?_
    | with_reducible refine if_of (fun _ => ?_) (fun _ => ?_)
    | with_reducible refine s_of (idx_get _ _ _ (by omega) (by omega)) ?_
    | with_reducible refine s_of (idx_get _ _ _ (by omega) (by simp only [List.length_set, List.length_append, List.length_take, List.length_drop, List.length_reverse, List.length_singleton]; omega)) ?_
    | with_reducible refine s_of (map_get _ _ _ (by omega)) ?_
    | with_reducible refine s_of (map_get _ _ _ (by simp only [List.length_set]; omega)) ?_
    | with_reducible refine s_of (if_neg (by omega)) ?_
    | with_reducible refine s_of (if_pos (by omega)) ?_
    | with_reducible refine need_of (by omega) ?_
    | with_reducible refine nil_of (fun _ => ?_) ?_
    | with_reducible refine alt_of ?_ ?_
    | (with_reducible apply join_of; intro _ _)
    | with_reducible assumption)
  all_goals first
    | (unfold assignW at h; rw [if_pos (by omega)] at h; exact h)
    | (unfold assignW at h; rw [if_neg (by omega), if_pos (by omega)] at h; exact h)
    | (unfold assignW at h; rw [if_neg (by omega), if_neg (by omega), if_pos (by assumption)] at h; exact h)
    | (unfold assignW at h; rw [if_neg (by omega), if_neg (by omega), if_neg (not_not_intro (by assumption)), if_pos (by assumption)] at h; exact h)
    | skip
  unfold assignW at h
  rw [if_neg (by omega), if_neg (by omega), if_neg (not_not_intro (by assumption)), if_neg (not_not_intro (by assumption))] at h
  have hbl := bucks_len (v := (r.getD col.toNat default).int) (size := size) (slide := slide)
  generalize (bucketsW (r.getD col.toNat default).int size slide).1 = bs at *
  rw [rowA_eq] at h
  refine loop_then (loop_ind (σ := Nat) (fun s => [(0, .sl (r.map eV)), (10, .own 0), (12, .own 1), (13, vi s)]) (fun s => [.row 3 (bs.map eI), .row 59 ((bs.take s).map (rowA r))]) (fun s => bs.length - s) (fun s => s ≤ bs.length) ?_ 0 (Nat.zero_le _))
  rintro X i hi ih
  try dsimp only at ih ⊢
  repeat' (first
    | simp -implicitDefEqProofs only [go_sem, eV, eI, Int.toNat_natCast, List.length_take, Nat.reduceAdd, Nat.reduceEqDiff, Nat.reduceLT, Nat.reduceBEq, Nat.reduceLeDiff, Nat.reduceSub, Int.reduceLE, Int.reduceNeg, Int.reduceEq, Int.reduceToNat]
    | with_reducible refine know_of fun _ => ?_
    | (with_reducible refine does_then (row_Join1 _ _ _ (by omega) ?_))
    | with_reducible refine ifD1 (by omega) ?_
    | with_reducible refine ifD0 (by omega) ?_
    | with_reducible refine ifE1 (by omega) ?_
    | with_reducible refine ifE0 (by omega) ?_
    | with_reducible refine ifN1 (by omega) ?_
    | with_reducible refine ifN0 (by omega) ?_
    | with_reducible refine ifD_of (fun _ => ?_) (fun _ => ?_)
    | with_reducible refine ifE_of (fun _ => ?_) (fun _ => ?_)
    | with_reducible refine ifN_of (fun _ => ?_) (fun _ => ?_)
    | with_reducible refine Go.V.if1 (by assumption) ?_
    | with_reducible refine Go.V.if0 (by assumption) ?_
    | with_reducible refine if_of (fun _ => ?_) (fun _ => ?_)
    | with_reducible refine s_of (idx_get _ _ _ (by omega) (by omega)) ?_
    | with_reducible refine s_of (idx_get _ _ _ (by omega) (by simp only [List.length_set, List.length_append, List.length_take, List.length_drop, List.length_reverse, List.length_singleton]; omega)) ?_
    | with_reducible refine s_of (map_get _ _ _ (by omega)) ?_
    | with_reducible refine s_of (map_get _ _ _ (by simp only [List.length_set]; omega)) ?_
    | with_reducible refine s_of (if_neg (by omega)) ?_
    | with_reducible refine s_of (if_pos (by omega)) ?_
    | with_reducible refine need_of (by omega) ?_
    | with_reducible refine nil_of (fun _ => ?_) ?_
    | with_reducible refine alt_of ?_ ?_
    | (with_reducible apply join_of; intro _ _)
    | with_reducible assumption)
  · rw [wnat i (by omega)]
    have ht := takeS (rowA r) bs i (by omega)
    unfold rowA at ht ⊢
    rw [ht]; exact ih (i + 1) (by omega) (by omega)
  · rw [List.take_of_length_le (by omega)]; exact h
end Go.V
