import Derived.Test.YtbccejopeclhmaaGreatL2b
namespace Go.V
open Go Go.RowKit Go.Proofs
set_option maxRecDepth 100000
set_option maxHeartbeats 4000000
set_option linter.unusedVariables false
set_option linter.unusedSimpArgs false
def truthV (v : Val) : Bool := v.kind == 0 && v.int != 0
theorem fitU1 (r : List Val) (a b c : Int) : Fit Tryz.prog 120 [[.sl (r.map eV), vi a, vi b, vi c]] = True := fitU [⟨r, ⟨a, b⟩, c⟩]
theorem fitC1 (r : List Val) (a : Int) : Fit Tryz.prog 61 [[.sl (r.map eV), vi a]] = True := fitC [⟨r, a⟩]
theorem fitV0 : Fit Tryz.prog 83 [] = True := fitV []
attribute [go_sem] fitU1 fitC1 fitV0
def inW (n lo hi : Int) : Bool := decide (lo ≤ n) && decide (n ≤ hi)
def checkW (size slide : Int) : Int := if ¬ (1 ≤ size ∧ size ≤ 1099511627776 ∧ 1 ≤ slide ∧ slide ≤ 1099511627776) then 1 else if size > 64 * slide then 3 else 0
def floorW (v slide : Int) : Int × Int := if ¬ (1 ≤ slide ∧ slide ≤ 1099511627776) then (0, 1) else if ¬ (-1152921504606846976 ≤ v ∧ v ≤ 1152921504606846976) then (0, 60) else (v - v % slide, 0)
def leT (a b : Time) : Bool := decide (a.epoch ≤ b.epoch) && decide (a.round ≤ b.round)
theorem expr_Truth (a0 a1 : Int) (a2 : ByteArray) (Q : PV → Mem → Prop)  (h : Q (vb (truthV ⟨a0, a1, a2⟩)) []) : Does Tryz.prog 109 [.agg [vi a0, vi a1, vs a2]] [] 0 Q := by
  refine does_of mixed Tryz.func109 rfl (by kernel_rfl) no (slots []) ?_
  simp only [Tryz.f109]
  repeat' (first
    | simp -implicitDefEqProofs only [go_sem, Nat.reduceAdd, Nat.reduceEqDiff, Nat.reduceLT, Nat.reduceBEq, Nat.reduceLeDiff, Nat.reduceSub, Int.reduceLE, Int.reduceNeg, Int.reduceEq, Int.reduceToNat]
    | with_reducible refine know_of fun _ => ?_
    | with_reducible refine ifD1 (by omega) ?_
    | with_reducible refine ifD0 (by omega) ?_
    | with_reducible refine ifE1 (by omega) ?_
    | with_reducible refine ifE0 (by omega) ?_
    | with_reducible refine ifN1 (by omega) ?_
    | with_reducible refine ifN0 (by omega) ?_
    | with_reducible refine ifD_of (fun _ => ?_) (fun _ => ?_)
    | with_reducible refine ifE_of (fun _ => ?_) (fun _ => ?_)
    | with_reducible refine ifN_of (fun _ => ?_) (fun _ => ?_)
    | with_reducible refine Go.V.if1 (by assumption) ?_
    | with_reducible refine Go.V.if0 (by assumption) ?_
    | with_reducible refine if_of (fun _ => ?_) (fun _ => ?_)
    | with_reducible refine s_of (idx_get _ _ _ (by omega) (by omega)) ?_
    | with_reducible refine s_of (idx_get _ _ _ (by omega) (by simp only [List.length_set, List.length_append, List.length_take, List.length_drop, List.length_reverse, List.length_singleton]; omega)) ?_
    | with_reducible refine s_of (map_get _ _ _ (by omega)) ?_
    | with_reducible refine s_of (map_get _ _ _ (by simp only [List.length_set]; omega)) ?_
    | with_reducible refine s_of (if_neg (by omega)) ?_
    | with_reducible refine s_of (if_pos (by omega)) ?_
    | with_reducible refine need_of (by omega) ?_
    | with_reducible refine nil_of (fun _ => ?_) ?_
    | with_reducible refine alt_of ?_ ?_
    | (with_reducible apply join_of; intro _ _)
    | with_reducible assumption)
  all_goals (refine Eq.mp (congrArg (fun x => Q (vb x) []) ?_) h; simp [truthV, *])
theorem ref18_one (r : List Val) (d : Int) (Q : PV → Mem → Prop)  (h : Q (.own 0) [.row 61 [[.sl (r.map eV), vi d]]]) : Does Tryz.prog 207 [.sl (r.map eV), vi d] [] 0 Q := by
  refine does_of mixed Tryz.func207 rfl (by kernel_rfl) no (slots []) ?_
  simp only [Tryz.f207]
  repeat' (first
    | simp -implicitDefEqProofs only [go_sem, Nat.reduceAdd, Nat.reduceEqDiff, Nat.reduceLT, Nat.reduceBEq, Nat.reduceLeDiff, Nat.reduceSub, Int.reduceLE, Int.reduceNeg, Int.reduceEq, Int.reduceToNat]
    | with_reducible refine know_of fun _ => ?_
    | with_reducible refine ifD1 (by omega) ?_
    | with_reducible refine ifD0 (by omega) ?_
    | with_reducible refine ifE1 (by omega) ?_
    | with_reducible refine ifE0 (by omega) ?_
    | with_reducible refine ifN1 (by omega) ?_
    | with_reducible refine ifN0 (by omega) ?_
    | with_reducible refine ifD_of (fun _ => ?_) (fun _ => ?_)
    | with_reducible refine ifE_of (fun _ => ?_) (fun _ => ?_)
    | with_reducible refine ifN_of (fun _ => ?_) (fun _ => ?_)
    | with_reducible refine Go.V.if1 (by assumption) ?_
    | with_reducible refine Go.V.if0 (by assumption) ?_
    | with_reducible refine if_of (fun _ => ?_) (fun _ => ?_)
    | with_reducible refine s_of (idx_get _ _ _ (by omega) (by omega)) ?_
    | with_reducible refine s_of (idx_get _ _ _ (by omega) (by simp only [List.length_set, List.length_append, List.length_take, List.length_drop, List.length_reverse, List.length_singleton]; omega)) ?_
    | with_reducible refine s_of (map_get _ _ _ (by omega)) ?_
    | with_reducible refine s_of (map_get _ _ _ (by simp only [List.length_set]; omega)) ?_
    | with_reducible refine s_of (if_neg (by omega)) ?_
    | with_reducible refine s_of (if_pos (by omega)) ?_
    | with_reducible refine need_of (by omega) ?_
    | with_reducible refine nil_of (fun _ => ?_) ?_
    | with_reducible refine alt_of ?_ ?_
    | (with_reducible apply join_of; intro _ _)
    | with_reducible assumption)
  all_goals first | exact h | simpa using h
theorem clone_row (l : List Val) (Q : PV → Mem → Prop) (hl : l.length ≤ 1000000000) (h : Q (.own 0) [.row 83 (l.map eV)]) : Does Tryz.prog 85 [.sl (l.map eV)] [] 0 Q := by
  refine does_of mixed Tryz.func85 rfl (by kernel_rfl) no (slots []) ?_
  simp only [Tryz.f85]
  repeat' (first
    | simp -implicitDefEqProofs only [go_sem, Nat.reduceAdd, Nat.reduceEqDiff, Nat.reduceLT, Nat.reduceBEq, Nat.reduceLeDiff, Nat.reduceSub, Int.reduceLE, Int.reduceNeg, Int.reduceEq, Int.reduceToNat]
    | with_reducible refine know_of fun _ => ?_
    | with_reducible refine ifD1 (by omega) ?_
    | with_reducible refine ifD0 (by omega) ?_
    | with_reducible refine ifE1 (by omega) ?_
    | with_reducible refine ifE0 (by omega) ?_
    | with_reducible refine ifN1 (by omega) ?_
    | with_reducible refine ifN0 (by omega) ?_
    | with_reducible refine ifD_of (fun _ => ?_) (fun _ => ?_)
    | with_reducible refine ifE_of (fun _ => ?_) (fun _ => ?_)
    | with_reducible refine ifN_of (fun _ => ?_) (fun _ => ?_)
    | with_reducible refine Go.V.if1 (by assumption) ?_
    | with_reducible refine Go.V.if0 (by assumption) ?_
    | with_reducible refine if_of (fun _ => ?_) (fun _ => ?_)
    | with_reducible refine s_of (idx_get _ _ _ (by omega) (by omega)) ?_
    | with_reducible refine s_of (idx_get _ _ _ (by omega) (by simp only [List.length_set, List.length_append, List.length_take, List.length_drop, List.length_reverse, List.length_singleton]; omega)) ?_
    | with_reducible refine s_of (map_get _ _ _ (by omega)) ?_
    | with_reducible refine s_of (map_get _ _ _ (by simp only [List.length_set]; omega)) ?_
    | with_reducible refine s_of (if_neg (by omega)) ?_
    | with_reducible refine s_of (if_pos (by omega)) ?_
    | with_reducible refine need_of (by omega) ?_
    | with_reducible refine nil_of (fun _ => ?_) ?_
    | with_reducible refine alt_of ?_ ?_
    | (with_reducible apply join_of; intro _ _)
    | with_reducible assumption)
  all_goals first | exact h | (have hl : l = [] := List.map_eq_nil_iff.mp (show List.map eV l = [] by assumption); subst hl; exact h)
theorem ref04_LessEq (a0 a1 b0 b1 : Int) (Q : PV → Mem → Prop)  (h : Q (vb (leT ⟨a0, a1⟩ ⟨b0, b1⟩)) []) : Does Tryz.prog 135 [.agg [vi a0, vi a1], .agg [vi b0, vi b1]] [] 0 Q := by
  refine does_of mixed Tryz.func135 rfl (by kernel_rfl) no (slots []) ?_
  simp only [Tryz.f135]
  repeat' (first
    | simp -implicitDefEqProofs only [go_sem, Nat.reduceAdd, Nat.reduceEqDiff, Nat.reduceLT, Nat.reduceBEq, Nat.reduceLeDiff, Nat.reduceSub, Int.reduceLE, Int.reduceNeg, Int.reduceEq, Int.reduceToNat]
    | with_reducible refine know_of fun _ => ?_
    | with_reducible refine ifD1 (by omega) ?_
    | with_reducible refine ifD0 (by omega) ?_
    | with_reducible refine ifE1 (by omega) ?_
    | with_reducible refine ifE0 (by omega) ?_
    | with_reducible refine ifN1 (by omega) ?_
    | with_reducible refine ifN0 (by omega) ?_
    | with_reducible refine ifD_of (fun _ => ?_) (fun _ => ?_)
    | with_reducible refine ifE_of (fun _ => ?_) (fun _ => ?_)
    | with_reducible refine ifN_of (fun _ => ?_) (fun _ => ?_)
    | with_reducible refine Go.V.if1 (by assumption) ?_
    | with_reducible refine Go.V.if0 (by assumption) ?_
    | with_reducible refine if_of (fun _ => ?_) (fun _ => ?_)
    | with_reducible refine s_of (idx_get _ _ _ (by omega) (by omega)) ?_
    | with_reducible refine s_of (idx_get _ _ _ (by omega) (by simp only [List.length_set, List.length_append, List.length_take, List.length_drop, List.length_reverse, List.length_singleton]; omega)) ?_
    | with_reducible refine s_of (map_get _ _ _ (by omega)) ?_
    | with_reducible refine s_of (map_get _ _ _ (by simp only [List.length_set]; omega)) ?_
    | with_reducible refine s_of (if_neg (by omega)) ?_
    | with_reducible refine s_of (if_pos (by omega)) ?_
    | with_reducible refine need_of (by omega) ?_
    | with_reducible refine nil_of (fun _ => ?_) ?_
    | with_reducible refine alt_of ?_ ?_
    | (with_reducible apply join_of; intro _ _)
    | with_reducible assumption)
  all_goals (refine Eq.mp (congrArg (fun x => Q (vb x) []) ?_) h; simp [leT, *])
theorem ref16_in (n lo hi : Int) (Q : PV → Mem → Prop)  (h1 : lo ≤ n → n ≤ hi → Q (vb true) []) (h0 : ¬ (lo ≤ n ∧ n ≤ hi) → Q (vb false) []) : Does Tryz.prog 159 [vi n, vi lo, vi hi] [] 0 Q := by
  refine does_of mixed Tryz.func159 rfl (by kernel_rfl) no (slots []) ?_
  simp only [Tryz.f159]
  repeat' (first
    | simp -implicitDefEqProofs only [go_sem, Nat.reduceAdd, Nat.reduceEqDiff, Nat.reduceLT, Nat.reduceBEq, Nat.reduceLeDiff, Nat.reduceSub, Int.reduceLE, Int.reduceNeg, Int.reduceEq, Int.reduceToNat]
    | with_reducible refine know_of fun _ => ?_
    | with_reducible refine ifD1 (by omega) ?_
    | with_reducible refine ifD0 (by omega) ?_
    | with_reducible refine ifE1 (by omega) ?_
    | with_reducible refine ifE0 (by omega) ?_
    | with_reducible refine ifN1 (by omega) ?_
    | with_reducible refine ifN0 (by omega) ?_
    | with_reducible refine ifD_of (fun _ => ?_) (fun _ => ?_)
    | with_reducible refine ifE_of (fun _ => ?_) (fun _ => ?_)
    | with_reducible refine ifN_of (fun _ => ?_) (fun _ => ?_)
    | with_reducible refine Go.V.if1 (by assumption) ?_
    | with_reducible refine Go.V.if0 (by assumption) ?_
    | with_reducible refine if_of (fun _ => ?_) (fun _ => ?_)
    | with_reducible refine s_of (idx_get _ _ _ (by omega) (by omega)) ?_
    | with_reducible refine s_of (idx_get _ _ _ (by omega) (by simp only [List.length_set, List.length_append, List.length_take, List.length_drop, List.length_reverse, List.length_singleton]; omega)) ?_
    | with_reducible refine s_of (map_get _ _ _ (by omega)) ?_
    | with_reducible refine s_of (map_get _ _ _ (by simp only [List.length_set]; omega)) ?_
    | with_reducible refine s_of (if_neg (by omega)) ?_
    | with_reducible refine s_of (if_pos (by omega)) ?_
    | with_reducible refine need_of (by omega) ?_
    | with_reducible refine nil_of (fun _ => ?_) ?_
    | with_reducible refine alt_of ?_ ?_
    | (with_reducible apply join_of; intro _ _)
    | with_reducible assumption)
  all_goals first | exact h1 (by omega) (by omega) | exact h0 (by omega) | (by_cases hh : n ≤ hi; (rw [decide_eq_true hh]; exact h1 (by omega) hh); (rw [decide_eq_false hh]; exact h0 (by omega)))
theorem ref16_Group (n : Int) (Q : PV → Mem → Prop) (hn : n < 9) (h : Q (.tup [vi 0, vb false]) []) : Does Tryz.prog 160 [vi n] [] 0 Q := by
  refine does_of mixed Tryz.func160 rfl (by kernel_rfl) no (slots []) ?_
  simp only [Tryz.f160]
  repeat' (first
    | simp -implicitDefEqProofs only [go_sem, Nat.reduceAdd, Nat.reduceEqDiff, Nat.reduceLT, Nat.reduceBEq, Nat.reduceLeDiff, Nat.reduceSub, Int.reduceLE, Int.reduceNeg, Int.reduceEq, Int.reduceToNat]
    | with_reducible refine know_of fun _ => ?_
    | (with_reducible refine does_then (ref16_in _ _ _ _ (fun _ _ => ?_) (fun _ => ?_)))
    | with_reducible refine ifD1 (by omega) ?_
    | with_reducible refine ifD0 (by omega) ?_
    | with_reducible refine ifE1 (by omega) ?_
    | with_reducible refine ifE0 (by omega) ?_
    | with_reducible refine ifN1 (by omega) ?_
    | with_reducible refine ifN0 (by omega) ?_
    | with_reducible refine ifD_of (fun _ => ?_) (fun _ => ?_)
    | with_reducible refine ifE_of (fun _ => ?_) (fun _ => ?_)
    | with_reducible refine ifN_of (fun _ => ?_) (fun _ => ?_)
    | with_reducible refine Go.V.if1 (by assumption) ?_
    | with_reducible refine Go.V.if0 (by assumption) ?_
    | with_reducible refine if_of (fun _ => ?_) (fun _ => ?_)
    | with_reducible refine s_of (idx_get _ _ _ (by omega) (by omega)) ?_
    | with_reducible refine s_of (idx_get _ _ _ (by omega) (by simp only [List.length_set, List.length_append, List.length_take, List.length_drop, List.length_reverse, List.length_singleton]; omega)) ?_
    | with_reducible refine s_of (map_get _ _ _ (by omega)) ?_
    | with_reducible refine s_of (map_get _ _ _ (by simp only [List.length_set]; omega)) ?_
    | with_reducible refine s_of (if_neg (by omega)) ?_
    | with_reducible refine s_of (if_pos (by omega)) ?_
    | with_reducible refine need_of (by omega) ?_
    | with_reducible refine nil_of (fun _ => ?_) ?_
    | with_reducible refine alt_of ?_ ?_
    | (with_reducible apply join_of; intro _ _)
    | with_reducible assumption)
  all_goals first | exact h | (exfalso; omega)
theorem window_between (n lo hi : Int) (Q : PV → Mem → Prop)  (h1 : lo ≤ n → n ≤ hi → Q (vb true) []) (h0 : ¬ (lo ≤ n ∧ n ≤ hi) → Q (vb false) []) : Does Tryz.prog 224 [vi n, vi lo, vi hi] [] 0 Q := by
  refine does_of mixed Tryz.func224 rfl (by kernel_rfl) no (slots []) ?_
  simp only [Tryz.f224]
  repeat' (first
    | simp -implicitDefEqProofs only [go_sem, Nat.reduceAdd, Nat.reduceEqDiff, Nat.reduceLT, Nat.reduceBEq, Nat.reduceLeDiff, Nat.reduceSub, Int.reduceLE, Int.reduceNeg, Int.reduceEq, Int.reduceToNat]
    | with_reducible refine know_of fun _ => ?_
    | with_reducible refine ifD1 (by omega) ?_
    | with_reducible refine ifD0 (by omega) ?_
    | with_reducible refine ifE1 (by omega) ?_
    | with_reducible refine ifE0 (by omega) ?_
    | with_reducible refine ifN1 (by omega) ?_
    | with_reducible refine ifN0 (by omega) ?_
    | with_reducible refine ifD_of (fun _ => ?_) (fun _ => ?_)
    | with_reducible refine ifE_of (fun _ => ?_) (fun _ => ?_)
    | with_reducible refine ifN_of (fun _ => ?_) (fun _ => ?_)
    | with_reducible refine Go.V.if1 (by assumption) ?_
    | with_reducible refine Go.V.if0 (by assumption) ?_
    | with_reducible refine if_of (fun _ => ?_) (fun _ => ?_)
    | with_reducible refine s_of (idx_get _ _ _ (by omega) (by omega)) ?_
    | with_reducible refine s_of (idx_get _ _ _ (by omega) (by simp only [List.length_set, List.length_append, List.length_take, List.length_drop, List.length_reverse, List.length_singleton]; omega)) ?_
    | with_reducible refine s_of (map_get _ _ _ (by omega)) ?_
    | with_reducible refine s_of (map_get _ _ _ (by simp only [List.length_set]; omega)) ?_
    | with_reducible refine s_of (if_neg (by omega)) ?_
    | with_reducible refine s_of (if_pos (by omega)) ?_
    | with_reducible refine need_of (by omega) ?_
    | with_reducible refine nil_of (fun _ => ?_) ?_
    | with_reducible refine alt_of ?_ ?_
    | (with_reducible apply join_of; intro _ _)
    | with_reducible assumption)
  all_goals first | exact h1 (by omega) (by omega) | exact h0 (by omega) | (by_cases hh : n ≤ hi; (rw [decide_eq_true hh]; exact h1 (by omega) hh); (rw [decide_eq_false hh]; exact h0 (by omega)))
theorem window_Check (a b : Int) (Q : PV → Mem → Prop)  (h : Q (vi (checkW a b)) []) : Does Tryz.prog 200 [vi a, vi b] [] 0 Q := by
  refine does_of mixed Tryz.func200 rfl (by kernel_rfl) no (slots []) ?_
  simp only [Tryz.f200]
  repeat' (first
    | rw [w64_of (64 * b) (by omega)]
    | simp -implicitDefEqProofs only [go_sem, Nat.reduceAdd, Nat.reduceEqDiff, Nat.reduceLT, Nat.reduceBEq, Nat.reduceLeDiff, Nat.reduceSub, Int.reduceLE, Int.reduceNeg, Int.reduceEq, Int.reduceToNat]
    | with_reducible refine know_of fun _ => ?_
    | (with_reducible refine does_then (window_between _ _ _ _ (fun _ _ => ?_) (fun _ => ?_)))
    | with_reducible refine ifD1 (by omega) ?_
    | with_reducible refine ifD0 (by omega) ?_
    | with_reducible refine ifE1 (by omega) ?_
    | with_reducible refine ifE0 (by omega) ?_
    | with_reducible refine ifN1 (by omega) ?_
    | with_reducible refine ifN0 (by omega) ?_
    | with_reducible refine ifD_of (fun _ => ?_) (fun _ => ?_)
    | with_reducible refine ifE_of (fun _ => ?_) (fun _ => ?_)
    | with_reducible refine ifN_of (fun _ => ?_) (fun _ => ?_)
    | with_reducible refine Go.V.if1 (by assumption) ?_
    | with_reducible refine Go.V.if0 (by assumption) ?_
    | with_reducible refine if_of (fun _ => ?_) (fun _ => ?_)
    | with_reducible refine s_of (idx_get _ _ _ (by omega) (by omega)) ?_
    | with_reducible refine s_of (idx_get _ _ _ (by omega) (by simp only [List.length_set, List.length_append, List.length_take, List.length_drop, List.length_reverse, List.length_singleton]; omega)) ?_
    | with_reducible refine s_of (map_get _ _ _ (by omega)) ?_
    | with_reducible refine s_of (map_get _ _ _ (by simp only [List.length_set]; omega)) ?_
    | with_reducible refine s_of (if_neg (by omega)) ?_
    | with_reducible refine s_of (if_pos (by omega)) ?_
    | with_reducible refine need_of (by omega) ?_
    | with_reducible refine nil_of (fun _ => ?_) ?_
    | with_reducible refine alt_of ?_ ?_
    | (with_reducible apply join_of; intro _ _)
    | with_reducible assumption)
  all_goals first | exact h | (simp only [checkW] at h; (repeat' split at h) <;> first | exact h | contradiction | (exfalso; omega) | (exfalso; simp_all; done) | (simpa [*, -h] using h))
theorem ref14_Check (a b : Int) (Q : PV → Mem → Prop)  (h : Q (vi (checkW a b)) []) : Does Tryz.prog 164 [vi a, vi b] [] 0 Q := by
  refine does_of mixed Tryz.func164 rfl (by kernel_rfl) no (slots []) ?_
  simp only [Tryz.f164]
  repeat' (first
    | rw [w64_of (64 * b) (by omega)]
    | simp -implicitDefEqProofs only [go_sem, Nat.reduceAdd, Nat.reduceEqDiff, Nat.reduceLT, Nat.reduceBEq, Nat.reduceLeDiff, Nat.reduceSub, Int.reduceLE, Int.reduceNeg, Int.reduceEq, Int.reduceToNat]
    | with_reducible refine know_of fun _ => ?_
    | with_reducible refine ifD1 (by omega) ?_
    | with_reducible refine ifD0 (by omega) ?_
    | with_reducible refine ifE1 (by omega) ?_
    | with_reducible refine ifE0 (by omega) ?_
    | with_reducible refine ifN1 (by omega) ?_
    | with_reducible refine ifN0 (by omega) ?_
    | with_reducible refine ifD_of (fun _ => ?_) (fun _ => ?_)
    | with_reducible refine ifE_of (fun _ => ?_) (fun _ => ?_)
    | with_reducible refine ifN_of (fun _ => ?_) (fun _ => ?_)
    | with_reducible refine Go.V.if1 (by assumption) ?_
    | with_reducible refine Go.V.if0 (by assumption) ?_
    | with_reducible refine if_of (fun _ => ?_) (fun _ => ?_)
    | with_reducible refine s_of (idx_get _ _ _ (by omega) (by omega)) ?_
    | with_reducible refine s_of (idx_get _ _ _ (by omega) (by simp only [List.length_set, List.length_append, List.length_take, List.length_drop, List.length_reverse, List.length_singleton]; omega)) ?_
    | with_reducible refine s_of (map_get _ _ _ (by omega)) ?_
    | with_reducible refine s_of (map_get _ _ _ (by simp only [List.length_set]; omega)) ?_
    | with_reducible refine s_of (if_neg (by omega)) ?_
    | with_reducible refine s_of (if_pos (by omega)) ?_
    | with_reducible refine need_of (by omega) ?_
    | with_reducible refine nil_of (fun _ => ?_) ?_
    | with_reducible refine alt_of ?_ ?_
    | (with_reducible apply join_of; intro _ _)
    | with_reducible assumption)
  all_goals first | exact h | (simp only [checkW] at h; (repeat' split at h) <;> first | exact h | contradiction | (exfalso; omega) | (exfalso; simp_all; done) | (simpa [*, -h] using h))
theorem tmod_floor {v s : Int} (hs : 1 ≤ s) : v % s = if v.tmod s < 0 then v.tmod s + s else v.tmod s := by
  rw [Int.tmod_eq_emod]
  have h1 := Int.emod_nonneg v (show s ≠ 0 by omega)
  have h2 := Int.emod_lt_of_pos v (show 0 < s by omega)
  split
  · rename_i hc
    split <;> omega
  · rename_i hc
    split <;> omega
theorem floor_ref {a b : Int} (hb : 1 ≤ b) (hb' : b ≤ 1099511627776) (ha : -1152921504606846976 ≤ a) (ha' : a ≤ 1152921504606846976) :
    (w64 (w64 (a.tdiv b) * b) > a → w64 (w64 (w64 (a.tdiv b) - 1) * b) = a - a % b) ∧ (¬ w64 (w64 (a.tdiv b) * b) > a → w64 (w64 (a.tdiv b) * b) = a - a % b) := by
  have hm := Int.mul_tdiv_add_tmod a b
  have hr := tmod_floor (v := a) hb
  have ht := Int.natAbs_tmod a b
  have hl : a.natAbs % b.natAbs < b.natAbs := Nat.mod_lt _ (by omega)
  have hq := Int.natAbs_tdiv a b
  have hq2 : a.natAbs / b.natAbs ≤ a.natAbs := Nat.div_le_self _ _
  rw [show a.natAbs / b.natAbs = (a.tdiv b).natAbs from hq.symm] at hq2
  rw [← ht] at hl
  clear hq ht
  rw [w64_of (a.tdiv b) (by omega)]
  have hc : (a.tdiv b - 1) * b = b * a.tdiv b - b := by rw [Int.sub_mul, Int.one_mul, Int.mul_comm]
  rw [w64_of (a.tdiv b - 1) (by omega), hc, Int.mul_comm (a.tdiv b) b]
  clear hc
  generalize b * a.tdiv b = p at *
  generalize a.tmod b = t at *
  generalize a % b = m at *
  rw [w64_of p (by omega), w64_of (p - b) (by omega)]
  split at hr <;> constructor <;> intro h <;> first | omega | skip
theorem window_Floor (a b : Int) (Q : PV → Mem → Prop)  (h : Q (.tup [vi (floorW a b).1, vi (floorW a b).2]) []) : Does Tryz.prog 201 [vi a, vi b] [] 0 Q := by
  refine does_of mixed Tryz.func201 rfl (by kernel_rfl) no (slots []) ?_
  simp only [Tryz.f201]
  repeat' (first
    | simp -implicitDefEqProofs only [go_sem, Nat.reduceAdd, Nat.reduceEqDiff, Nat.reduceLT, Nat.reduceBEq, Nat.reduceLeDiff, Nat.reduceSub, Int.reduceLE, Int.reduceNeg, Int.reduceEq, Int.reduceToNat]
    | with_reducible refine know_of fun _ => ?_
    | (with_reducible refine does_then (window_between _ _ _ _ (fun _ _ => ?_) (fun _ => ?_)))
    | with_reducible refine ifD1 (by omega) ?_
    | with_reducible refine ifD0 (by omega) ?_
    | with_reducible refine ifE1 (by omega) ?_
    | with_reducible refine ifE0 (by omega) ?_
    | with_reducible refine ifN1 (by omega) ?_
    | with_reducible refine ifN0 (by omega) ?_
    | with_reducible refine ifD_of (fun _ => ?_) (fun _ => ?_)
    | with_reducible refine ifE_of (fun _ => ?_) (fun _ => ?_)
    | with_reducible refine ifN_of (fun _ => ?_) (fun _ => ?_)
    | with_reducible refine Go.V.if1 (by assumption) ?_
    | with_reducible refine Go.V.if0 (by assumption) ?_
    | with_reducible refine if_of (fun _ => ?_) (fun _ => ?_)
    | with_reducible refine s_of (idx_get _ _ _ (by omega) (by omega)) ?_
    | with_reducible refine s_of (idx_get _ _ _ (by omega) (by simp only [List.length_set, List.length_append, List.length_take, List.length_drop, List.length_reverse, List.length_singleton]; omega)) ?_
    | with_reducible refine s_of (map_get _ _ _ (by omega)) ?_
    | with_reducible refine s_of (map_get _ _ _ (by simp only [List.length_set]; omega)) ?_
    | with_reducible refine s_of (if_neg (by omega)) ?_
    | with_reducible refine s_of (if_pos (by omega)) ?_
    | with_reducible refine need_of (by omega) ?_
    | with_reducible refine nil_of (fun _ => ?_) ?_
    | with_reducible refine alt_of ?_ ?_
    | (with_reducible apply join_of; intro _ _)
    | with_reducible assumption)
  all_goals (unfold floorW at h; first
    | (rw [if_pos (by omega)] at h; exact h)
    | (rw [if_neg (by omega), if_pos (by omega)] at h; exact h)
    | (rw [if_neg (by omega), if_neg (by omega)] at h
       have hf := tmod_floor (v := a) (s := b) (by omega)
       have hr := Int.natAbs_tmod a b
       have hl : a.natAbs % b.natAbs < b.natAbs := Nat.mod_lt _ (by omega)
       rw [← hr] at hl
       clear hr
       rw [hf] at h
       clear hf
       generalize a.tmod b = t at *
       first
       | (rw [if_pos (by assumption)] at h; rw [w64_of (t + b) (by omega), w64_of _ (by omega)]; exact h)
       | (rw [if_neg (by assumption)] at h; rw [w64_of _ (by omega)]; exact h)))
theorem ref14_Floor (a b : Int) (Q : PV → Mem → Prop)  (h : Q (.tup [vi (floorW a b).1, vi (floorW a b).2]) []) : Does Tryz.prog 240 [vi a, vi b] [] 0 Q := by
  refine does_of mixed Tryz.func240 rfl (by kernel_rfl) no (slots []) ?_
  simp only [Tryz.f240]
  repeat' (first
    | simp -implicitDefEqProofs only [go_sem, Nat.reduceAdd, Nat.reduceEqDiff, Nat.reduceLT, Nat.reduceBEq, Nat.reduceLeDiff, Nat.reduceSub, Int.reduceLE, Int.reduceNeg, Int.reduceEq, Int.reduceToNat]
    | with_reducible refine know_of fun _ => ?_
    | with_reducible refine ifD1 (by omega) ?_
    | with_reducible refine ifD0 (by omega) ?_
    | with_reducible refine ifE1 (by omega) ?_
    | with_reducible refine ifE0 (by omega) ?_
    | with_reducible refine ifN1 (by omega) ?_
    | with_reducible refine ifN0 (by omega) ?_
    | with_reducible refine ifD_of (fun _ => ?_) (fun _ => ?_)
    | with_reducible refine ifE_of (fun _ => ?_) (fun _ => ?_)
    | with_reducible refine ifN_of (fun _ => ?_) (fun _ => ?_)
    | with_reducible refine Go.V.if1 (by assumption) ?_
    | with_reducible refine Go.V.if0 (by assumption) ?_
    | with_reducible refine if_of (fun _ => ?_) (fun _ => ?_)
    | with_reducible refine s_of (idx_get _ _ _ (by omega) (by omega)) ?_
    | with_reducible refine s_of (idx_get _ _ _ (by omega) (by simp only [List.length_set, List.length_append, List.length_take, List.length_drop, List.length_reverse, List.length_singleton]; omega)) ?_
    | with_reducible refine s_of (map_get _ _ _ (by omega)) ?_
    | with_reducible refine s_of (map_get _ _ _ (by simp only [List.length_set]; omega)) ?_
    | with_reducible refine s_of (if_neg (by omega)) ?_
    | with_reducible refine s_of (if_pos (by omega)) ?_
    | with_reducible refine need_of (by omega) ?_
    | with_reducible refine nil_of (fun _ => ?_) ?_
    | with_reducible refine alt_of ?_ ?_
    | (with_reducible apply join_of; intro _ _)
    | with_reducible assumption)
  all_goals (unfold floorW at h; first
    | (rw [if_pos (by omega)] at h; exact h)
    | (rw [if_neg (by omega), if_pos (by omega)] at h; exact h)
    | (rw [if_neg (by omega), if_neg (by omega)] at h
       have hf := floor_ref (a := a) (b := b) (by omega) (by omega) (by omega) (by omega)
       first | (rw [hf.1 (by assumption)]; exact h) | (rw [hf.2 (by assumption)]; exact h)))
end Go.V
