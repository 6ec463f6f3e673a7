import Derived.Test.YtbccejopeclhmaaGreatLA
namespace Go.V
open Go Go.RowKit Go.Proofs
set_option maxRecDepth 100000
set_option maxHeartbeats 4000000
set_option linter.unusedVariables false
set_option linter.unusedSimpArgs false
def groupK (k : Int) : Int × Bool := if 9 ≤ k ∧ k ≤ 14 then (k - 9, true) else (0, false)
theorem group_9 {k : Int} {Q : PV → Mem → Prop} (hk : k = 9) (h : Q (.tup [vi (groupK k).1, vb (groupK k).2]) []) : Q (.tup [vi 0, vb true]) [] := by
  subst hk; exact h
theorem group_1 {k : Int} {Q : PV → Mem → Prop} (hk : 10 ≤ k ∧ k ≤ 14) (h : Q (.tup [vi (groupK k).1, vb (groupK k).2]) []) : Q (.tup [vi (w64 (w64 (k - 10) + 1)), vb true]) [] := by
  rw [groupK, if_pos (by omega)] at h
  rw [w64_of (k - 10) (by omega), w64_of _ (by omega), show k - 10 + 1 = k - 9 by omega]
  exact h
theorem plan_Group (n : Node) (Q : PV → Mem → Prop)  (h : Q (.tup [vi (groupK n.kind).1, vb (groupK n.kind).2]) []) : Does Tryz.prog 12 [.agg [vi n.kind, .sl (n.ins.map eI), .sl (n.kinds.map eI), .sl (n.exprs.map eE), .sl (n.cols.map eI), vi n.key, vi n.n, vi n.size, vi n.slide]] [] 0 Q := by
  refine does_of mixed Tryz.func12 rfl (by kernel_rfl) no (slots []) ?_
  simp only [Tryz.f12]
  repeat' (first
    | simp -implicitDefEqProofs only [go_sem, Nat.reduceAdd, Nat.reduceEqDiff, Nat.reduceLT, Nat.reduceBEq, Nat.reduceLeDiff, Nat.reduceSub, Int.reduceLE, Int.reduceNeg, Int.reduceEq, Int.reduceToNat]
    | with_reducible refine know_of fun _ => ?_
    | with_reducible refine ifD1 (by omega) ?_
    | with_reducible refine ifD0 (by omega) ?_
    | with_reducible refine ifE1 (by omega) ?_
    | with_reducible refine ifE0 (by omega) ?_
    | with_reducible refine ifN1 (by omega) ?_
    | with_reducible refine ifN0 (by omega) ?_
    | with_reducible refine ifD_of (fun _ => ?_) (fun _ => ?_)
    | with_reducible refine ifE_of (fun _ => ?_) (fun _ => ?_)
    | with_reducible refine ifN_of (fun _ => ?_) (fun _ => ?_)
    | with_reducible refine Go.V.if1 (by assumption) ?_
    | with_reducible refine Go.V.if0 (by assumption) ?_
    | with_reducible refine if_of (fun _ => ?_) (fun _ => ?_)
    | with_reducible refine s_of (idx_get _ _ _ (by omega) (by omega)) ?_
    | with_reducible refine s_of (idx_get _ _ _ (by omega) (by simp only [List.length_set, List.length_append, List.length_take, List.length_drop, List.length_reverse, List.length_singleton]; omega)) ?_
    | with_reducible refine s_of (map_get _ _ _ (by omega)) ?_
    | with_reducible refine s_of (map_get _ _ _ (by simp only [List.length_set]; omega)) ?_
    | with_reducible refine s_of (if_neg (by omega)) ?_
    | with_reducible refine s_of (if_pos (by omega)) ?_
    | with_reducible refine need_of (by omega) ?_
    | with_reducible refine nil_of (fun _ => ?_) ?_
    | with_reducible refine alt_of ?_ ?_
    | (with_reducible apply join_of; intro _ _)
    | with_reducible assumption)
  all_goals first | exact group_1 (by omega) h | (rw [groupK, if_neg (by omega)] at h; exact h) | exact group_9 (by assumption) h
theorem groupK_t {k : Int} (h : (groupK k).2 = true) : 9 ≤ k ∧ k ≤ 14 := by
  unfold groupK at h; split at h
  · assumption
  · simp at h
theorem groupK_f {k : Int} (h : (groupK k).2 = false) : ¬ (9 ≤ k ∧ k ≤ 14) := by
  unfold groupK at h; split at h
  · simp at h
  · assumption
theorem groupK_1 {k : Int} (h : 9 ≤ k ∧ k ≤ 14) : (groupK k).1 = k - 9 := by unfold groupK; rw [if_pos h]
end Go.V
