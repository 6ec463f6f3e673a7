import Derived.Test.YtheogjehgjbhaaaLI
import Derived.Test.YtheogjehgjbhaaaLJ
import Derived.Test.YtheogjehgjbhaaaLD
namespace Go.V
open Go Go.RowKit Go.Proofs
set_option maxRecDepth 100000
set_option maxHeartbeats 4000000
set_option linter.unusedVariables false
set_option linter.unusedSimpArgs false
def mapA (r : List Val) : List (List Term) → List Val → List Val × Int
  | [], a => (a, 0)
  | x :: l, a => if (evalE x r).2 = 0 then mapA r l (a ++ [(evalE x r).1]) else ([], (evalE x r).2)
/-- What a linear node makes of a change. -/
def linV (n : Node) (u : Up) : List Up × Int :=
  if n.kind = 1 then (if (mapA u.row n.exprs []).2 = 0 then ([⟨(mapA u.row n.exprs []).1, u.time, u.diff⟩], 0) else ([], (mapA u.row n.exprs []).2))
  else if n.kind = 2 then (if n.exprs.length ≠ 1 then ([], 1) else if (evalE (n.exprs.getD 0 default) u.row).2 ≠ 0 then ([], (evalE (n.exprs.getD 0 default) u.row).2) else if truthV (evalE (n.exprs.getD 0 default) u.row).1 = true then ([u], 0) else ([], 0))
  else if n.kind = 3 then (if (partA u.row n.cols []).2 = 0 then ([⟨(partA u.row n.cols []).1, u.time, u.diff⟩], 0) else ([], (partA u.row n.cols []).2))
  else if n.kind = 4 then ([u], 0)
  else if n.kind = 5 then (if (over (0 - u.diff)).2 = 0 then ([⟨u.row, u.time, (over (0 - u.diff)).1⟩], 0) else ([], (over (0 - u.diff)).2))
  else if n.kind = 7 then (if (assignW u.row n.n n.size n.slide).2 = 0 then ((assignW u.row n.n n.size n.slide).1.map fun r => ⟨r, u.time, u.diff⟩, 0) else ([], (assignW u.row n.n n.size n.slide).2))
  else ([], 8)
def linA (n : Node) : List Up → List Up → List Up × Int
  | [], a => (a, 0)
  | u :: l, a => if (linV n u).2 = 0 then linA n l (a ++ (linV n u).1) else ([], (linV n u).2)
theorem linear_mapped (n : Node) (u : Up) (Q : PV → Mem → Prop) (hu : u.row.length ≤ 1000000 ∧ n.exprs.length ≤ 1000000 ∧ n.cols.length ≤ 1000000) (hk : n.kind = 1) (h : Q (.tup [.own 0, vi (linV n u).2]) [.row 71 ((linV n u).1.map eU)]) : Does Try.prog 61 [.agg [vi n.kind, .sl (n.ins.map eI), .sl (n.kinds.map eI), .sl (n.exprs.map eE), .sl (n.cols.map eI), vi n.key, vi n.n, vi n.size, vi n.slide], .agg [.sl (u.row.map eV), vi u.time.epoch, vi u.time.round, vi u.diff]] [] 0 Q := by
  refine does_of mixed Try.func61 rfl (by kernel_rfl) no (slots [(0, [3, 6, 16, 17, 18])]) ?_
  simp only [Try.f61]
  repeat' (first
    | simp -implicitDefEqProofs only [go_sem, eN, eU, eE, List.replicate_zero, Nat.reduceAdd, Nat.reduceEqDiff, Nat.reduceLT, Nat.reduceBEq, Nat.reduceLeDiff, Nat.reduceSub, Int.reduceLE, Int.reduceNeg, Int.reduceEq, Int.reduceToNat]
    | with_reducible refine know_of fun _ => ?_
    | with_reducible refine ifD1 (by omega) ?_
    | with_reducible refine ifD0 (by omega) ?_
    | with_reducible refine ifE1 (by omega) ?_
    | with_reducible refine ifE0 (by omega) ?_
    | with_reducible refine ifN1 (by omega) ?_
    | with_reducible refine ifN0 (by omega) ?_
    | with_reducible refine ifD_of (fun _ => ?_) (fun _ => ?_)
    | with_reducible refine ifE_of (fun _ => ?_) (fun _ => ?_)
    | with_reducible refine ifN_of (fun _ => ?_) (fun _ => ?_)
    | with_reducible refine Go.V.if1 (by assumption) ?_
    | with_reducible refine Go.V.if0 (by assumption) ?_
    | with_reducible refine if_of (fun _ => ?_) (fun _ => ?_)
    | with_reducible refine s_of (idx_get _ _ _ (by omega) (by omega)) ?_
    | with_reducible refine s_of (idx_get _ _ _ (by omega) (by simp only [List.length_set, List.length_append, List.length_take, List.length_drop, List.length_reverse, List.length_singleton]; omega)) ?_
    | with_reducible refine s_of (map_get _ _ _ (by omega)) ?_
    | with_reducible refine s_of (map_get _ _ _ (by simp only [List.length_set]; omega)) ?_
    | with_reducible refine s_of (if_neg (by omega)) ?_
    | with_reducible refine s_of (if_pos (by omega)) ?_
    | with_reducible refine need_of (by omega) ?_
    | with_reducible refine nil_of (fun _ => ?_) ?_
    | with_reducible refine alt_of ?_ ?_
    | (with_reducible apply join_of; intro _ _)
    | with_reducible assumption)
  unfold linV at h
  rw [if_pos hk] at h
  refine loop_then (loop_ind (σ := Nat × List Val) (fun s => [(3, .adr 0 0), (6, .own 1), (16, .sl (n.exprs.map eE)), (17, vi n.exprs.length), (18, vi s.1)]) (fun s => [.var (eU u), .row 75 (s.2.map eV)]) (fun s => n.exprs.length - s.1) (fun s => s.1 ≤ n.exprs.length ∧ s.2.length ≤ s.1 ∧ mapA u.row n.exprs [] = mapA u.row (n.exprs.drop s.1) s.2) ?_ (0, []) ⟨Nat.zero_le _, Nat.zero_le _, rfl⟩)
  rintro X ⟨i, a⟩ ⟨hi, ha, hm⟩ ih
  try dsimp only at ih ⊢
  dsimp only at hi ha hm
  repeat' (first
    | rw [appV]
    | simp -implicitDefEqProofs only [go_sem, eE, eU, Int.toNat_natCast, Nat.reduceAdd, Nat.reduceEqDiff, Nat.reduceLT, Nat.reduceBEq, Nat.reduceLeDiff, Nat.reduceSub, Int.reduceLE, Int.reduceNeg, Int.reduceEq, Int.reduceToNat]
    | with_reducible refine know_of fun _ => ?_
    | (with_reducible refine does_then (expr_Eval _ _ _ (by omega) ?_))
    | (with_reducible refine does_then (linear_as _ _ _ _ _ _ ?_))
    | with_reducible refine ifD1 (by omega) ?_
    | with_reducible refine ifD0 (by omega) ?_
    | with_reducible refine ifE1 (by omega) ?_
    | with_reducible refine ifE0 (by omega) ?_
    | with_reducible refine ifN1 (by omega) ?_
    | with_reducible refine ifN0 (by omega) ?_
    | with_reducible refine ifD_of (fun _ => ?_) (fun _ => ?_)
    | with_reducible refine ifE_of (fun _ => ?_) (fun _ => ?_)
    | with_reducible refine ifN_of (fun _ => ?_) (fun _ => ?_)
    | with_reducible refine Go.V.if1 (by assumption) ?_
    | with_reducible refine Go.V.if0 (by assumption) ?_
    | with_reducible refine if_of (fun _ => ?_) (fun _ => ?_)
    | with_reducible refine s_of (idx_get _ _ _ (by omega) (by omega)) ?_
    | with_reducible refine s_of (idx_get _ _ _ (by omega) (by simp only [List.length_set, List.length_append, List.length_take, List.length_drop, List.length_reverse, List.length_singleton]; omega)) ?_
    | with_reducible refine s_of (map_get _ _ _ (by omega)) ?_
    | with_reducible refine s_of (map_get _ _ _ (by simp only [List.length_set]; omega)) ?_
    | with_reducible refine s_of (if_neg (by omega)) ?_
    | with_reducible refine s_of (if_pos (by omega)) ?_
    | with_reducible refine need_of (by omega) ?_
    | with_reducible refine nil_of (fun _ => ?_) ?_
    | with_reducible refine alt_of ?_ ?_
    | (with_reducible apply join_of; intro _ _)
    | with_reducible assumption)
  all_goals first
    | (rw [drop_getD n.exprs i (by omega), mapA, if_neg (by assumption)] at hm
       rw [hm, if_neg (by assumption)] at h; exact h)
    | (rw [drop_getD n.exprs i (by omega), mapA, if_pos (by assumption)] at hm
       rw [wnat i (by omega)]
       exact ih (i + 1, _) (by dsimp only; omega) ⟨by dsimp only; omega, by simp; omega, hm⟩)
    | (rw [List.drop_eq_nil_of_le (by omega), mapA] at hm
       rw [hm, if_pos rfl] at h; exact h)
theorem linear_filtered (n : Node) (u : Up) (Q : PV → Mem → Prop) (hu : u.row.length ≤ 1000000 ∧ n.exprs.length ≤ 1000000 ∧ n.cols.length ≤ 1000000) (hk : n.kind = 2) (h : Q (.tup [.own 0, vi (linV n u).2]) [.row 71 ((linV n u).1.map eU)]) : Does Try.prog 62 [.agg [vi n.kind, .sl (n.ins.map eI), .sl (n.kinds.map eI), .sl (n.exprs.map eE), .sl (n.cols.map eI), vi n.key, vi n.n, vi n.size, vi n.slide], .agg [.sl (u.row.map eV), vi u.time.epoch, vi u.time.round, vi u.diff]] [] 0 Q := by
  refine does_ofT mixed Try.func62 rfl (treesT [(3, (.one 0 (.one 1 (.one 2 (.one 3 (.one 4 (.one 5 (.alt (.one 6 (.one 7 (.one 8 (.one 9 (.one 10 (.one 11 (.one 12 .nil))))))) (.one 10 (.one 6 (.one 7 (.one 8 (.one 9 (.one 11 (.one 12 .nil))))))))))))), [3, 6, 7])), (6, (.one 1 (.one 2 (.alt (.one 0 (.one 3 (.one 4 (.one 5 (.one 6 .nil))))) (.one 3 (.one 0 (.one 4 (.one 5 (.one 6 .nil))))))), [4, 5]))]) (by kernel_rfl) no (slots []) ?_
  simp only [Try.f62]
  unfold linV at h
  rw [if_neg (by omega), if_pos hk] at h
  repeat' (first
    | simp -implicitDefEqProofs only [go_sem, eN, eU, eE, Nat.reduceAdd, Nat.reduceEqDiff, Nat.reduceLT, Nat.reduceBEq, Nat.reduceLeDiff, Nat.reduceSub, Int.reduceLE, Int.reduceNeg, Int.reduceEq, Int.reduceToNat]
    | with_reducible refine know_of fun _ => ?_
    | (with_reducible refine does_then (expr_Eval _ _ _ (by omega) ?_))
    | (with_reducible refine does_then (expr_Truth _ _ _ _ ?_))
    | (with_reducible refine does_then (clone_row _ _ (by omega) ?_))
    | (with_reducible refine does_then (linear_as _ _ _ _ _ _ ?_))
    | with_reducible refine ifD1 (by omega) ?_
    | with_reducible refine ifD0 (by omega) ?_
    | with_reducible refine ifE1 (by omega) ?_
    | with_reducible refine ifE0 (by omega) ?_
    | with_reducible refine ifN1 (by omega) ?_
    | with_reducible refine ifN0 (by omega) ?_
    | with_reducible refine ifD_of (fun _ => ?_) (fun _ => ?_)
    | with_reducible refine ifE_of (fun _ => ?_) (fun _ => ?_)
    | with_reducible refine ifN_of (fun _ => ?_) (fun _ => ?_)
    | with_reducible refine Go.V.if1 (by assumption) ?_
    | with_reducible refine Go.V.if0 (by assumption) ?_
    | with_reducible refine if_of (fun _ => ?_) (fun _ => ?_)
    | with_reducible refine s_of (idx_get _ _ _ (by omega) (by omega)) ?_
    | with_reducible refine s_of (idx_get _ _ _ (by omega) (by simp only [List.length_set, List.length_append, List.length_take, List.length_drop, List.length_reverse, List.length_singleton]; omega)) ?_
    | with_reducible refine s_of (map_get _ _ _ (by omega)) ?_
    | with_reducible refine s_of (map_get _ _ _ (by simp only [List.length_set]; omega)) ?_
    | with_reducible refine s_of (if_neg (by omega)) ?_
    | with_reducible refine s_of (if_pos (by omega)) ?_
    | with_reducible refine need_of (by omega) ?_
    | with_reducible refine nil_of (fun _ => ?_) ?_
    | with_reducible refine alt_of ?_ ?_
    | (with_reducible apply join_of; intro _ _)
    | with_reducible assumption)
  all_goals first
    | (rw [if_pos (by omega)] at h; exact h)
    | (rw [if_neg (by omega), if_pos (by assumption)] at h; exact h)
    | (rw [if_neg (by omega), if_neg (not_not_intro (by assumption)), if_pos (by assumption)] at h; exact h)
    | (rw [if_neg (by omega), if_neg (not_not_intro (by assumption)), if_neg (by rw [show truthV _ = false by assumption]; exact Bool.false_ne_true)] at h; rw [show (evalE (n.exprs.getD 0 default) u.row).2 = 0 by assumption]; exact h)
    | trace_state
theorem linear_projected (n : Node) (u : Up) (Q : PV → Mem → Prop) (hu : u.row.length ≤ 1000000 ∧ n.exprs.length ≤ 1000000 ∧ n.cols.length ≤ 1000000) (hk : n.kind = 3) (h : Q (.tup [.own 0, vi (linV n u).2]) [.row 71 ((linV n u).1.map eU)]) : Does Try.prog 63 [.agg [vi n.kind, .sl (n.ins.map eI), .sl (n.kinds.map eI), .sl (n.exprs.map eE), .sl (n.cols.map eI), vi n.key, vi n.n, vi n.size, vi n.slide], .agg [.sl (u.row.map eV), vi u.time.epoch, vi u.time.round, vi u.diff]] [] 0 Q := by
  refine does_of mixed Try.func63 rfl (by kernel_rfl) no (slots []) ?_
  simp only [Try.f63]
  unfold linV at h
  rw [if_neg (by omega), if_neg (by omega), if_pos hk] at h
  repeat' (first
    | simp -implicitDefEqProofs only [go_sem, eN, eU, Nat.reduceAdd, Nat.reduceEqDiff, Nat.reduceLT, Nat.reduceBEq, Nat.reduceLeDiff, Nat.reduceSub, Int.reduceLE, Int.reduceNeg, Int.reduceEq, Int.reduceToNat]
    | with_reducible refine know_of fun _ => ?_
    | (with_reducible refine does_then (row_Part _ _ _ (by omega) ?_))
    | (with_reducible refine does_then (linear_as _ _ _ _ _ _ ?_))
    | with_reducible refine ifD1 (by omega) ?_
    | with_reducible refine ifD0 (by omega) ?_
    | with_reducible refine ifE1 (by omega) ?_
    | with_reducible refine ifE0 (by omega) ?_
    | with_reducible refine ifN1 (by omega) ?_
    | with_reducible refine ifN0 (by omega) ?_
    | with_reducible refine ifD_of (fun _ => ?_) (fun _ => ?_)
    | with_reducible refine ifE_of (fun _ => ?_) (fun _ => ?_)
    | with_reducible refine ifN_of (fun _ => ?_) (fun _ => ?_)
    | with_reducible refine Go.V.if1 (by assumption) ?_
    | with_reducible refine Go.V.if0 (by assumption) ?_
    | with_reducible refine if_of (fun _ => ?_) (fun _ => ?_)
    | with_reducible refine s_of (idx_get _ _ _ (by omega) (by omega)) ?_
    | with_reducible refine s_of (idx_get _ _ _ (by omega) (by simp only [List.length_set, List.length_append, List.length_take, List.length_drop, List.length_reverse, List.length_singleton]; omega)) ?_
    | with_reducible refine s_of (map_get _ _ _ (by omega)) ?_
    | with_reducible refine s_of (map_get _ _ _ (by simp only [List.length_set]; omega)) ?_
    | with_reducible refine s_of (if_neg (by omega)) ?_
    | with_reducible refine s_of (if_pos (by omega)) ?_
    | with_reducible refine need_of (by omega) ?_
    | with_reducible refine nil_of (fun _ => ?_) ?_
    | with_reducible refine alt_of ?_ ?_
    | (with_reducible apply join_of; intro _ _)
    | with_reducible assumption)
  all_goals first
    | (rw [if_pos (by assumption)] at h; exact h)
    | (rw [if_neg (by assumption)] at h; exact h)
theorem linear_negated (n : Node) (u : Up) (Q : PV → Mem → Prop) (hu : u.row.length ≤ 1000000 ∧ n.exprs.length ≤ 1000000 ∧ n.cols.length ≤ 1000000) (hk : n.kind = 5) (h : Q (.tup [.own 0, vi (linV n u).2]) [.row 71 ((linV n u).1.map eU)]) : Does Try.prog 66 [.agg [.sl (u.row.map eV), vi u.time.epoch, vi u.time.round, vi u.diff]] [] 0 Q := by
  refine does_ofT mixed Try.func66 rfl (treesT [(4, (.one 0 (.one 1 (.one 5 (.alt (.one 2 (.one 3 (.one 4 (.one 6 (.one 7 (.one 8 (.one 9 .nil))))))) (.one 3 (.alt (.one 2 (.one 4 (.one 6 (.one 7 (.one 8 (.one 9 .nil)))))) (.one 4 (.one 2 (.one 6 (.one 7 (.one 8 (.one 9 .nil))))))))))), [2, 3]))]) (by kernel_rfl) no (slots []) ?_
  simp only [Try.f66]
  unfold linV at h
  rw [if_neg (by omega), if_neg (by omega), if_neg (by omega), if_neg (by omega), if_pos hk] at h
  repeat' (first
    | simp -implicitDefEqProofs only [go_sem, eU, Nat.reduceAdd, Nat.reduceEqDiff, Nat.reduceLT, Nat.reduceBEq, Nat.reduceLeDiff, Nat.reduceSub, Int.reduceLE, Int.reduceNeg, Int.reduceEq, Int.reduceToNat]
    | with_reducible refine know_of fun _ => ?_
    | (with_reducible refine does_then (weigh_Neg _ _ ?_))
    | (with_reducible refine does_then (clone_row _ _ (by omega) ?_))
    | with_reducible refine ifD1 (by omega) ?_
    | with_reducible refine ifD0 (by omega) ?_
    | with_reducible refine ifE1 (by omega) ?_
    | with_reducible refine ifE0 (by omega) ?_
    | with_reducible refine ifN1 (by omega) ?_
    | with_reducible refine ifN0 (by omega) ?_
    | with_reducible refine ifD_of (fun _ => ?_) (fun _ => ?_)
    | with_reducible refine ifE_of (fun _ => ?_) (fun _ => ?_)
    | with_reducible refine ifN_of (fun _ => ?_) (fun _ => ?_)
    | with_reducible refine Go.V.if1 (by assumption) ?_
    | with_reducible refine Go.V.if0 (by assumption) ?_
    | with_reducible refine if_of (fun _ => ?_) (fun _ => ?_)
    | with_reducible refine s_of (idx_get _ _ _ (by omega) (by omega)) ?_
    | with_reducible refine s_of (idx_get _ _ _ (by omega) (by simp only [List.length_set, List.length_append, List.length_take, List.length_drop, List.length_reverse, List.length_singleton]; omega)) ?_
    | with_reducible refine s_of (map_get _ _ _ (by omega)) ?_
    | with_reducible refine s_of (map_get _ _ _ (by simp only [List.length_set]; omega)) ?_
    | with_reducible refine s_of (if_neg (by omega)) ?_
    | with_reducible refine s_of (if_pos (by omega)) ?_
    | with_reducible refine need_of (by omega) ?_
    | with_reducible refine nil_of (fun _ => ?_) ?_
    | with_reducible refine alt_of ?_ ?_
    | (with_reducible apply join_of; intro _ _)
    | with_reducible assumption)
  all_goals first
    | (rw [if_pos (by assumption)] at h; exact h)
    | (rw [if_neg (by assumption)] at h; exact h)
theorem takeU (R : List (List Val)) (u : Up) (i : Nat) (h : i < R.length) : ((R.take i).map fun r => eU ⟨r, u.time, u.diff⟩) ++ [[.sl ((R.getD i default).map eV), vi u.time.epoch, vi u.time.round, vi u.diff]] = (R.take (i + 1)).map fun r => eU ⟨r, u.time, u.diff⟩ := takeS (fun r => eU ⟨r, u.time, u.diff⟩) R i h
theorem assign_len {r : List Val} {c s t : Int} : (assignW r c s t).1.length ≤ 64 := by
  unfold assignW
  (repeat' split) <;> first | exact Nat.zero_le _ | (rw [List.length_map]; exact bucks_len)
theorem linear_bucketed (n : Node) (u : Up) (Q : PV → Mem → Prop) (hu : u.row.length ≤ 1000000 ∧ n.exprs.length ≤ 1000000 ∧ n.cols.length ≤ 1000000) (hk : n.kind = 7) (h : Q (.tup [.own 0, vi (linV n u).2]) [.row 71 ((linV n u).1.map eU)]) : Does Try.prog 67 [.agg [vi n.kind, .sl (n.ins.map eI), .sl (n.kinds.map eI), .sl (n.exprs.map eE), .sl (n.cols.map eI), vi n.key, vi n.n, vi n.size, vi n.slide], .agg [.sl (u.row.map eV), vi u.time.epoch, vi u.time.round, vi u.diff]] [] 0 Q := by
  refine does_of mixed Try.func67 rfl (by kernel_rfl) no (slots [(0, [3, 8, 26, 27, 28])]) ?_
  simp only [Try.f67]
  unfold linV at h
  rw [if_neg (by omega), if_neg (by omega), if_neg (by omega), if_neg (by omega), if_neg (by omega), if_pos hk] at h
  have hal := assign_len (r := u.row) (c := n.n) (s := n.size) (t := n.slide)
  repeat' (first
    | simp -implicitDefEqProofs only [go_sem, eN, eU, Nat.reduceAdd, Nat.reduceEqDiff, Nat.reduceLT, Nat.reduceBEq, Nat.reduceLeDiff, Nat.reduceSub, Int.reduceLE, Int.reduceNeg, Int.reduceEq, Int.reduceToNat]
    | with_reducible refine know_of fun _ => ?_
    | (with_reducible refine does_then (window_Assign _ _ _ _ _ ?_))
    | with_reducible refine ifD1 (by omega) ?_
    | with_reducible refine ifD0 (by omega) ?_
    | with_reducible refine ifE1 (by omega) ?_
    | with_reducible refine ifE0 (by omega) ?_
    | with_reducible refine ifN1 (by omega) ?_
    | with_reducible refine ifN0 (by omega) ?_
    | with_reducible refine ifD_of (fun _ => ?_) (fun _ => ?_)
    | with_reducible refine ifE_of (fun _ => ?_) (fun _ => ?_)
    | with_reducible refine ifN_of (fun _ => ?_) (fun _ => ?_)
    | with_reducible refine Go.V.if1 (by assumption) ?_
    | with_reducible refine Go.V.if0 (by assumption) ?_
    | with_reducible refine if_of (fun _ => ?_) (fun _ => ?_)
    | with_reducible refine s_of (idx_get _ _ _ (by omega) (by omega)) ?_
    | with_reducible refine s_of (idx_get _ _ _ (by omega) (by simp only [List.length_set, List.length_append, List.length_take, List.length_drop, List.length_reverse, List.length_singleton]; omega)) ?_
    | with_reducible refine s_of (map_get _ _ _ (by omega)) ?_
    | with_reducible refine s_of (map_get _ _ _ (by simp only [List.length_set]; omega)) ?_
    | with_reducible refine s_of (if_neg (by omega)) ?_
    | with_reducible refine s_of (if_pos (by omega)) ?_
    | with_reducible refine need_of (by omega) ?_
    | with_reducible refine nil_of (fun _ => ?_) ?_
    | with_reducible refine alt_of ?_ ?_
    | (with_reducible apply join_of; intro _ _)
    | with_reducible assumption)
  · rw [if_neg (by assumption)] at h; exact h
  rw [if_pos (by assumption)] at h
  generalize (assignW u.row n.n n.size n.slide).1 = R at *
  refine loop_then (loop_ind (σ := Nat) (fun s => [(3, .adr 0 0), (8, .own 1), (26, .own 2), (27, vi R.length), (28, vi s)]) (fun s => [.var (eU u), .row 71 ((R.take s).map fun r => eU ⟨r, u.time, u.diff⟩), .row 69 (R.map eR)]) (fun s => R.length - s) (fun s => s ≤ R.length) ?_ 0 (Nat.zero_le _))
  rintro X i hi ih
  try dsimp only at ih ⊢
  repeat' (first
    | simp -implicitDefEqProofs only [go_sem, eR, eU, Int.toNat_natCast, List.length_take, Nat.reduceAdd, Nat.reduceEqDiff, Nat.reduceLT, Nat.reduceBEq, Nat.reduceLeDiff, Nat.reduceSub, Int.reduceLE, Int.reduceNeg, Int.reduceEq, Int.reduceToNat]
    | with_reducible refine know_of fun _ => ?_
    | (with_reducible refine does_then (linear_as _ _ _ _ _ _ ?_))
    | with_reducible refine ifD1 (by omega) ?_
    | with_reducible refine ifD0 (by omega) ?_
    | with_reducible refine ifE1 (by omega) ?_
    | with_reducible refine ifE0 (by omega) ?_
    | with_reducible refine ifN1 (by omega) ?_
    | with_reducible refine ifN0 (by omega) ?_
    | with_reducible refine ifD_of (fun _ => ?_) (fun _ => ?_)
    | with_reducible refine ifE_of (fun _ => ?_) (fun _ => ?_)
    | with_reducible refine ifN_of (fun _ => ?_) (fun _ => ?_)
    | with_reducible refine Go.V.if1 (by assumption) ?_
    | with_reducible refine Go.V.if0 (by assumption) ?_
    | with_reducible refine if_of (fun _ => ?_) (fun _ => ?_)
    | with_reducible refine s_of (idx_get _ _ _ (by omega) (by omega)) ?_
    | with_reducible refine s_of (idx_get _ _ _ (by omega) (by simp only [List.length_set, List.length_append, List.length_take, List.length_drop, List.length_reverse, List.length_singleton]; omega)) ?_
    | with_reducible refine s_of (map_get _ _ _ (by omega)) ?_
    | with_reducible refine s_of (map_get _ _ _ (by simp only [List.length_set]; omega)) ?_
    | with_reducible refine s_of (if_neg (by omega)) ?_
    | with_reducible refine s_of (if_pos (by omega)) ?_
    | with_reducible refine need_of (by omega) ?_
    | with_reducible refine nil_of (fun _ => ?_) ?_
    | with_reducible refine alt_of ?_ ?_
    | (with_reducible apply join_of; intro _ _)
    | with_reducible assumption)
  · rw [wnat i (by omega)]
    have ht := takeU R u i (by omega)
    unfold eU at ht
    rw [ht]; exact ih (i + 1) (by omega) (by omega)
  · rw [List.take_of_length_le (by omega)]; rw [List.map_map] at h; exact h
theorem linear_Do (n : Node) (u : Up) (Q : PV → Mem → Prop) (hu : u.row.length ≤ 1000000 ∧ n.exprs.length ≤ 1000000 ∧ n.cols.length ≤ 1000000) (h : Q (.tup [.own 0, vi (linV n u).2]) [.row 71 ((linV n u).1.map eU)]) : Does Try.prog 35 [.agg [vi n.kind, .sl (n.ins.map eI), .sl (n.kinds.map eI), .sl (n.exprs.map eE), .sl (n.cols.map eI), vi n.key, vi n.n, vi n.size, vi n.slide], .agg [.sl (u.row.map eV), vi u.time.epoch, vi u.time.round, vi u.diff]] [] 0 Q := by
  refine does_ofT mixed Try.func35 rfl (treesT [(9, (.one 1 (.one 2 (.alt (.one 0 (.one 3 (.one 4 (.one 5 (.one 6 .nil))))) (.one 3 (.one 0 (.one 4 (.one 5 (.one 6 .nil))))))), [4, 5]))]) (by kernel_rfl) no (slots []) ?_
  simp only [Try.f35]
  repeat' (first
    | simp -implicitDefEqProofs only [go_sem, eN, eU, Nat.reduceAdd, Nat.reduceEqDiff, Nat.reduceLT, Nat.reduceBEq, Nat.reduceLeDiff, Nat.reduceSub, Int.reduceLE, Int.reduceNeg, Int.reduceEq, Int.reduceToNat]
    | with_reducible refine know_of fun _ => ?_
    | (with_reducible refine does_then (linear_mapped n u _ hu (by assumption) ?_))
    | (with_reducible refine does_then (linear_filtered n u _ hu (by assumption) ?_))
    | (with_reducible refine does_then (linear_projected n u _ hu (by assumption) ?_))
    | (with_reducible refine does_then (linear_negated n u _ hu (by assumption) ?_))
    | (with_reducible refine does_then (linear_bucketed n u _ hu (by assumption) ?_))
    | (with_reducible refine does_then (clone_row _ _ (by omega) ?_))
    | (with_reducible refine does_then (linear_as _ _ _ _ _ _ ?_))
    | with_reducible refine ifD1 (by omega) ?_
    | with_reducible refine ifD0 (by omega) ?_
    | with_reducible refine ifE1 (by omega) ?_
    | with_reducible refine ifE0 (by omega) ?_
    | with_reducible refine ifN1 (by omega) ?_
    | with_reducible refine ifN0 (by omega) ?_
    | with_reducible refine ifD_of (fun _ => ?_) (fun _ => ?_)
    | with_reducible refine ifE_of (fun _ => ?_) (fun _ => ?_)
    | with_reducible refine ifN_of (fun _ => ?_) (fun _ => ?_)
    | with_reducible refine Go.V.if1 (by assumption) ?_
    | with_reducible refine Go.V.if0 (by assumption) ?_
    | with_reducible refine if_of (fun _ => ?_) (fun _ => ?_)
    | with_reducible refine s_of (idx_get _ _ _ (by omega) (by omega)) ?_
    | with_reducible refine s_of (idx_get _ _ _ (by omega) (by simp only [List.length_set, List.length_append, List.length_take, List.length_drop, List.length_reverse, List.length_singleton]; omega)) ?_
    | with_reducible refine s_of (map_get _ _ _ (by omega)) ?_
    | with_reducible refine s_of (map_get _ _ _ (by simp only [List.length_set]; omega)) ?_
    | with_reducible refine s_of (if_neg (by omega)) ?_
    | with_reducible refine s_of (if_pos (by omega)) ?_
    | with_reducible refine need_of (by omega) ?_
    | with_reducible refine nil_of (fun _ => ?_) ?_
    | with_reducible refine alt_of ?_ ?_
    | (with_reducible apply join_of; intro _ _)
    | with_reducible assumption)
  all_goals first
    | exact h
    | (unfold linV at h; rw [if_neg (by omega), if_neg (by omega), if_neg (by omega), if_pos (by assumption)] at h; exact h)
    | (unfold linV at h; rw [if_neg (by omega), if_neg (by omega), if_neg (by omega), if_neg (by omega), if_neg (by omega), if_neg (by omega)] at h; exact h)
    | trace_state
end Go.V
