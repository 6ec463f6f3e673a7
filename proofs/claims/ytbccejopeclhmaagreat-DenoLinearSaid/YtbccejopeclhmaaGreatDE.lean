import Derived.Test.YtbccejopeclhmaaGreatDD
import Derived.Test.YtbccejopeclhmaaGreatLG2
import Derived.Test.YtbccejopeclhmaaGreatWK
namespace Go.V
open Go Go.RowKit Go.Proofs
set_option maxRecDepth 100000
set_option maxHeartbeats 4000000
set_option linter.unusedVariables false
set_option linter.unusedSimpArgs false
theorem law18_code (n : Int) (Q : PV → Mem → Prop)  (h : Q (vi n) []) : Does Tryz.prog 18 [vi n] [] 0 Q := by
  refine does_of mixed Tryz.func18 rfl (by kernel_rfl) no (slots []) ?_
  simp only [Tryz.f18]
  repeat' (first
    | simp -implicitDefEqProofs only [go_sem, Nat.reduceAdd, Nat.reduceEqDiff, Nat.reduceLT, Nat.reduceBEq, Nat.reduceLeDiff, Nat.reduceSub, Int.reduceLE, Int.reduceNeg, Int.reduceEq, Int.reduceToNat]
    | with_reducible refine know_of fun _ => ?_
    | with_reducible refine ifD1 (by omega) ?_
    | with_reducible refine ifD0 (by omega) ?_
    | with_reducible refine ifE1 (by omega) ?_
    | with_reducible refine ifE0 (by omega) ?_
    | with_reducible refine ifN1 (by omega) ?_
    | with_reducible refine ifN0 (by omega) ?_
    | with_reducible refine ifD_of (fun _ => ?_) (fun _ => ?_)
    | with_reducible refine ifE_of (fun _ => ?_) (fun _ => ?_)
    | with_reducible refine ifN_of (fun _ => ?_) (fun _ => ?_)
    | with_reducible refine Go.V.if1 (by assumption) ?_
    | with_reducible refine Go.V.if0 (by assumption) ?_
    | with_reducible refine if_of (fun _ => ?_) (fun _ => ?_)
    | with_reducible refine s_of (idx_get _ _ _ (by omega) (by omega)) ?_
    | with_reducible refine s_of (idx_get _ _ _ (by omega) (by simp only [List.length_set, List.length_append, List.length_take, List.length_drop, List.length_reverse, List.length_singleton]; omega)) ?_
    | with_reducible refine s_of (map_get _ _ _ (by omega)) ?_
    | with_reducible refine s_of (map_get _ _ _ (by simp only [List.length_set]; omega)) ?_
    | with_reducible refine s_of (if_neg (by omega)) ?_
    | with_reducible refine s_of (if_pos (by omega)) ?_
    | with_reducible refine need_of (by omega) ?_
    | with_reducible refine nil_of (fun _ => ?_) ?_
    | with_reducible refine alt_of ?_ ?_
    | (with_reducible apply join_of; intro _ _)
    | with_reducible assumption)
  all_goals first | exact h | simpa using h
def manyD (l : List (List Count)) : Bool := decide (10 < l.length) || l.any fun x => decide (20 < x.length) || muchC x
theorem many_0 {l : List (List Count)} (h : manyD l = false) : l.length ≤ 10 ∧ ∀ x ∈ l, x.length ≤ 20 ∧ muchC x = false := by
  unfold manyD at h
  rw [Bool.or_eq_false_iff, decide_eq_false_iff_not] at h
  refine ⟨by omega, fun x hx => ?_⟩
  have := List.any_eq_false.1 h.2 x hx
  rw [Bool.or_eq_true, not_or, decide_eq_true_eq, Bool.not_eq_true] at this
  exact ⟨by omega, this.2⟩
theorem law18_many (l : List (List Count)) (Q : PV → Mem → Prop)  (h : Q (vb (manyD l)) []) : Does Tryz.prog 14 [.sl (l.map eL)] [] 0 Q := by
  refine does_of mixed Tryz.func14 rfl (by kernel_rfl) no (slots [(0, [0, 3])]) ?_
  simp only [Tryz.f14]
  repeat' (first
    | simp -implicitDefEqProofs only [go_sem, eL, Nat.reduceAdd, Nat.reduceEqDiff, Nat.reduceLT, Nat.reduceBEq, Nat.reduceLeDiff, Nat.reduceSub, Int.reduceLE, Int.reduceNeg, Int.reduceEq, Int.reduceToNat]
    | with_reducible refine know_of fun _ => ?_
    | with_reducible refine ifD1 (by omega) ?_
    | with_reducible refine ifD0 (by omega) ?_
    | with_reducible refine ifE1 (by omega) ?_
    | with_reducible refine ifE0 (by omega) ?_
    | with_reducible refine ifN1 (by omega) ?_
    | with_reducible refine ifN0 (by omega) ?_
    | with_reducible refine ifD_of (fun _ => ?_) (fun _ => ?_)
    | with_reducible refine ifE_of (fun _ => ?_) (fun _ => ?_)
    | with_reducible refine ifN_of (fun _ => ?_) (fun _ => ?_)
    | with_reducible refine Go.V.if1 (by assumption) ?_
    | with_reducible refine Go.V.if0 (by assumption) ?_
    | with_reducible refine if_of (fun _ => ?_) (fun _ => ?_)
    | with_reducible refine s_of (idx_get _ _ _ (by omega) (by omega)) ?_
    | with_reducible refine s_of (idx_get _ _ _ (by omega) (by simp only [List.length_set, List.length_append, List.length_take, List.length_drop, List.length_reverse, List.length_singleton]; omega)) ?_
    | with_reducible refine s_of (map_get _ _ _ (by omega)) ?_
    | with_reducible refine s_of (map_get _ _ _ (by simp only [List.length_set]; omega)) ?_
    | with_reducible refine s_of (if_neg (by omega)) ?_
    | with_reducible refine s_of (if_pos (by omega)) ?_
    | with_reducible refine need_of (by omega) ?_
    | with_reducible refine nil_of (fun _ => ?_) ?_
    | with_reducible refine alt_of ?_ ?_
    | (with_reducible apply join_of; intro _ _)
    | with_reducible assumption)
  · rw [manyD, decide_eq_true (by omega), Bool.true_or] at h; exact h
  rw [manyD, decide_eq_false (by omega), Bool.false_or] at h
  refine loop_then (loop_ind (σ := Nat) (fun s => [(0, .sl (l.map eL)), (3, vi s)]) (fun s => []) (fun s => l.length - s) (fun s => s ≤ l.length ∧ ((l.drop s).any fun x => decide (20 < x.length) || muchC x) = (l.any fun x => decide (20 < x.length) || muchC x)) ?_ 0 ⟨Nat.zero_le _, rfl⟩)
  rintro X i ⟨hi, hs⟩ ih
  try dsimp only at ih ⊢
  repeat' (first
    | simp -implicitDefEqProofs only [go_sem, eL, Int.toNat_natCast, Nat.reduceAdd, Nat.reduceEqDiff, Nat.reduceLT, Nat.reduceBEq, Nat.reduceLeDiff, Nat.reduceSub, Int.reduceLE, Int.reduceNeg, Int.reduceEq, Int.reduceToNat]
    | with_reducible refine know_of fun _ => ?_
    | (with_reducible refine does_then (ref07_MuchCounts _ _ ?_))
    | with_reducible refine ifD1 (by omega) ?_
    | with_reducible refine ifD0 (by omega) ?_
    | with_reducible refine ifE1 (by omega) ?_
    | with_reducible refine ifE0 (by omega) ?_
    | with_reducible refine ifN1 (by omega) ?_
    | with_reducible refine ifN0 (by omega) ?_
    | with_reducible refine ifD_of (fun _ => ?_) (fun _ => ?_)
    | with_reducible refine ifE_of (fun _ => ?_) (fun _ => ?_)
    | with_reducible refine ifN_of (fun _ => ?_) (fun _ => ?_)
    | with_reducible refine Go.V.if1 (by assumption) ?_
    | with_reducible refine Go.V.if0 (by assumption) ?_
    | with_reducible refine if_of (fun _ => ?_) (fun _ => ?_)
    | with_reducible refine s_of (idx_get _ _ _ (by omega) (by omega)) ?_
    | with_reducible refine s_of (idx_get _ _ _ (by omega) (by simp only [List.length_set, List.length_append, List.length_take, List.length_drop, List.length_reverse, List.length_singleton]; omega)) ?_
    | with_reducible refine s_of (map_get _ _ _ (by omega)) ?_
    | with_reducible refine s_of (map_get _ _ _ (by simp only [List.length_set]; omega)) ?_
    | with_reducible refine s_of (if_neg (by omega)) ?_
    | with_reducible refine s_of (if_pos (by omega)) ?_
    | with_reducible refine need_of (by omega) ?_
    | with_reducible refine nil_of (fun _ => ?_) ?_
    | with_reducible refine alt_of ?_ ?_
    | (with_reducible apply join_of; intro _ _)
    | with_reducible assumption)
  · rw [drop_getD l i (by omega), List.any_cons, decide_eq_true (by omega), Bool.true_or, Bool.true_or] at hs
    rw [← hs] at h; exact h
  · rename_i hm
    rw [drop_getD l i (by omega), List.any_cons, hm, Bool.or_true, Bool.true_or] at hs
    rw [← hs] at h; exact h
  · rename_i hm _
    rw [drop_getD l i (by omega), List.any_cons, decide_eq_false (by omega), hm, Bool.or_false, Bool.false_or] at hs
    rw [wnat i (by omega)]
    exact ih (i + 1) (by omega) ⟨by omega, hs⟩
  · rw [List.drop_eq_nil_of_le (by omega)] at hs
    rw [← hs] at h; exact h
theorem law18_together (a b : List Count) (Q : PV → Mem → Prop) (ha : a.length ≤ 1000000) (hb : b.length ≤ 1000000) (h : Q (.own 0) [.row 61 ((a ++ b).map eC)]) : Does Tryz.prog 19 [.sl (a.map eC), .sl (b.map eC)] [] 0 Q := by
  refine does_of mixed Tryz.func19 rfl (by kernel_rfl) no (slots []) ?_
  simp only [Tryz.f19]
  repeat' (first
    | simp -implicitDefEqProofs only [go_sem, Nat.reduceAdd, Nat.reduceEqDiff, Nat.reduceLT, Nat.reduceBEq, Nat.reduceLeDiff, Nat.reduceSub, Int.reduceLE, Int.reduceNeg, Int.reduceEq, Int.reduceToNat]
    | with_reducible refine know_of fun _ => ?_
    | with_reducible refine ifD1 (by omega) ?_
    | with_reducible refine ifD0 (by omega) ?_
    | with_reducible refine ifE1 (by omega) ?_
    | with_reducible refine ifE0 (by omega) ?_
    | with_reducible refine ifN1 (by omega) ?_
    | with_reducible refine ifN0 (by omega) ?_
    | with_reducible refine ifD_of (fun _ => ?_) (fun _ => ?_)
    | with_reducible refine ifE_of (fun _ => ?_) (fun _ => ?_)
    | with_reducible refine ifN_of (fun _ => ?_) (fun _ => ?_)
    | with_reducible refine Go.V.if1 (by assumption) ?_
    | with_reducible refine Go.V.if0 (by assumption) ?_
    | with_reducible refine if_of (fun _ => ?_) (fun _ => ?_)
    | with_reducible refine s_of (idx_get _ _ _ (by omega) (by omega)) ?_
    | with_reducible refine s_of (idx_get _ _ _ (by omega) (by simp only [List.length_set, List.length_append, List.length_take, List.length_drop, List.length_reverse, List.length_singleton]; omega)) ?_
    | with_reducible refine s_of (map_get _ _ _ (by omega)) ?_
    | with_reducible refine s_of (map_get _ _ _ (by simp only [List.length_set]; omega)) ?_
    | with_reducible refine s_of (if_neg (by omega)) ?_
    | with_reducible refine s_of (if_pos (by omega)) ?_
    | with_reducible refine need_of (by omega) ?_
    | with_reducible refine nil_of (fun _ => ?_) ?_
    | with_reducible refine alt_of ?_ ?_
    | (with_reducible apply join_of; intro _ _)
    | with_reducible assumption)
  all_goals (rw [List.map_append] at h; exact h)
theorem law18_wide (n : Node) (Q : PV → Mem → Prop)  (h : Q (vb (wideN n)) []) : Does Tryz.prog 13 [.agg [vi n.kind, .sl (n.ins.map eI), .sl (n.kinds.map eI), .sl (n.exprs.map eE), .sl (n.cols.map eI), vi n.key, vi n.n, vi n.size, vi n.slide]] [] 0 Q := by
  refine does_of mixed Tryz.func13 rfl (by kernel_rfl) no (slots [(0, [1, 3])]) ?_
  simp only [Tryz.f13]
  repeat' (first
    | simp -implicitDefEqProofs only [go_sem, eN, eE, Nat.reduceAdd, Nat.reduceEqDiff, Nat.reduceLT, Nat.reduceBEq, Nat.reduceLeDiff, Nat.reduceSub, Int.reduceLE, Int.reduceNeg, Int.reduceEq, Int.reduceToNat]
    | with_reducible refine know_of fun _ => ?_
    | with_reducible refine ifD1 (by omega) ?_
    | with_reducible refine ifD0 (by omega) ?_
    | with_reducible refine ifE1 (by omega) ?_
    | with_reducible refine ifE0 (by omega) ?_
    | with_reducible refine ifN1 (by omega) ?_
    | with_reducible refine ifN0 (by omega) ?_
    | with_reducible refine ifD_of (fun _ => ?_) (fun _ => ?_)
    | with_reducible refine ifE_of (fun _ => ?_) (fun _ => ?_)
    | with_reducible refine ifN_of (fun _ => ?_) (fun _ => ?_)
    | with_reducible refine Go.V.if1 (by assumption) ?_
    | with_reducible refine Go.V.if0 (by assumption) ?_
    | with_reducible refine if_of (fun _ => ?_) (fun _ => ?_)
    | with_reducible refine s_of (idx_get _ _ _ (by omega) (by omega)) ?_
    | with_reducible refine s_of (idx_get _ _ _ (by omega) (by simp only [List.length_set, List.length_append, List.length_take, List.length_drop, List.length_reverse, List.length_singleton]; omega)) ?_
    | with_reducible refine s_of (map_get _ _ _ (by omega)) ?_
    | with_reducible refine s_of (map_get _ _ _ (by simp only [List.length_set]; omega)) ?_
    | with_reducible refine s_of (if_neg (by omega)) ?_
    | with_reducible refine s_of (if_pos (by omega)) ?_
    | with_reducible refine need_of (by omega) ?_
    | with_reducible refine nil_of (fun _ => ?_) ?_
    | with_reducible refine alt_of ?_ ?_
    | (with_reducible apply join_of; intro _ _)
    | with_reducible assumption)
  · rw [wanyN1 (by omega)] at h; exact h
  · rw [wanyN1 (by omega)] at h; exact h
  rw [wanyN (by omega) (by omega)] at h
  refine loop_then (loop_ind (σ := Nat) (fun s => [(1, .adr 0 0), (3, vi s)]) (fun s => [.var (eN n)]) (fun s => n.exprs.length - s) (fun s => s ≤ n.exprs.length ∧ Q (vb ((n.exprs.drop s).any longT)) []) ?_ 0 ⟨Nat.zero_le _, h⟩)
  rintro X i ⟨hi, hQ⟩ ih
  try dsimp only at ih ⊢
  repeat' (first
    | simp -implicitDefEqProofs only [go_sem, eN, eE, Int.toNat_natCast, Nat.reduceAdd, Nat.reduceEqDiff, Nat.reduceLT, Nat.reduceBEq, Nat.reduceLeDiff, Nat.reduceSub, Int.reduceLE, Int.reduceNeg, Int.reduceEq, Int.reduceToNat]
    | with_reducible refine know_of fun _ => ?_
    | (with_reducible refine does_then (ref08_Long _ _ ?_))
    | with_reducible refine ifD1 (by omega) ?_
    | with_reducible refine ifD0 (by omega) ?_
    | with_reducible refine ifE1 (by omega) ?_
    | with_reducible refine ifE0 (by omega) ?_
    | with_reducible refine ifN1 (by omega) ?_
    | with_reducible refine ifN0 (by omega) ?_
    | with_reducible refine ifD_of (fun _ => ?_) (fun _ => ?_)
    | with_reducible refine ifE_of (fun _ => ?_) (fun _ => ?_)
    | with_reducible refine ifN_of (fun _ => ?_) (fun _ => ?_)
    | with_reducible refine Go.V.if1 (by assumption) ?_
    | with_reducible refine Go.V.if0 (by assumption) ?_
    | with_reducible refine if_of (fun _ => ?_) (fun _ => ?_)
    | with_reducible refine s_of (idx_get _ _ _ (by omega) (by omega)) ?_
    | with_reducible refine s_of (idx_get _ _ _ (by omega) (by simp only [List.length_set, List.length_append, List.length_take, List.length_drop, List.length_reverse, List.length_singleton]; omega)) ?_
    | with_reducible refine s_of (map_get _ _ _ (by omega)) ?_
    | with_reducible refine s_of (map_get _ _ _ (by simp only [List.length_set]; omega)) ?_
    | with_reducible refine s_of (if_neg (by omega)) ?_
    | with_reducible refine s_of (if_pos (by omega)) ?_
    | with_reducible refine need_of (by omega) ?_
    | with_reducible refine nil_of (fun _ => ?_) ?_
    | with_reducible refine alt_of ?_ ?_
    | (with_reducible apply join_of; intro _ _)
    | with_reducible assumption)
  all_goals first
    | (rw [any_t (by omega) (by assumption)] at hQ; exact hQ)
    | (rw [any_f (by omega) (by assumption)] at hQ; rw [wnat i (by omega)]; exact ih (i + 1) (by omega) ⟨by omega, hQ⟩)
    | (rw [any_e (by omega)] at hQ; exact hQ)
theorem live18_val : nodeD ⟨15, [], [], [], [], 1, 0, 0, 0⟩ [[⟨[⟨0, 1, nilS⟩, ⟨0, 5, nilS⟩], 2⟩], [⟨[⟨0, 1, nilS⟩, ⟨0, 6, nilS⟩], 3⟩]] = ([⟨[⟨0, 1, nilS⟩, ⟨0, 5, nilS⟩, ⟨0, 6, nilS⟩], 6⟩], 0) := by decide +kernel
theorem live18_same : sameC [⟨[⟨0, 1, nilS⟩, ⟨0, 5, nilS⟩, ⟨0, 6, nilS⟩], 6⟩] [⟨[⟨0, 1, nilS⟩, ⟨0, 5, nilS⟩, ⟨0, 6, nilS⟩], 6⟩] = true := by decide +kernel
theorem live18_node (Q : PV → Mem → Prop) (h : Q (.tup [.own 0, vi 0]) [.row 61 [[.sl [[vi 0, vi 1, vs nilS], [vi 0, vi 5, vs nilS], [vi 0, vi 6, vs nilS]], vi 6]]]) :
    Does Tryz.prog 17 [.agg [vi 15, .val (.slice none 0 0), .val (.slice none 0 0), .val (.slice none 0 0), .val (.slice none 0 0), vi 1, vi 0, vi 0, vi 0], .sl [[.sl [[.sl [[vi 0, vi 1, vs nilS], [vi 0, vi 5, vs nilS]], vi 2]]], [.sl [[.sl [[vi 0, vi 1, vs nilS], [vi 0, vi 6, vs nilS]], vi 3]]]]] [] 0 Q :=
  does_weak (deno_Node ⟨15, [], [], [], [], 1, 0, 0, 0⟩ [[⟨[⟨0, 1, nilS⟩, ⟨0, 5, nilS⟩], 2⟩], [⟨[⟨0, 1, nilS⟩, ⟨0, 6, nilS⟩], 3⟩]] Q (by decide) (by decide) (by decide) (by decide) (by decide) (by rw [live18_val]; exact h))
    (.cons (wk_agg (.cons (wk_refl _) (.cons wk_nil (.cons wk_nil (.cons wk_nil (.cons wk_nil (wkL_refl _))))))) (wkL_refl _))
theorem live18_eq (Q : PV → Mem → Prop) (h : Q (vb true) []) : Does Tryz.prog 21 [.sl [[.sl [[vi 0, vi 1, vs nilS], [vi 0, vi 5, vs nilS], [vi 0, vi 6, vs nilS]], vi 6]], .sl [[.sl [[vi 0, vi 1, vs nilS], [vi 0, vi 5, vs nilS], [vi 0, vi 6, vs nilS]], vi 6]]] [] 0 Q :=
  ref07_SameCounts [⟨[⟨0, 1, nilS⟩, ⟨0, 5, nilS⟩, ⟨0, 6, nilS⟩], 6⟩] [⟨[⟨0, 1, nilS⟩, ⟨0, 5, nilS⟩, ⟨0, 6, nilS⟩], 6⟩] Q (by rw [live18_same]; exact h)
theorem law18_live  (Q : PV → Mem → Prop)  (h : Q (vb true) []) : Does Tryz.prog 15 [] [] 0 Q := by
  refine does_of mixed Tryz.func15 rfl (by kernel_rfl) no (slots []) ?_
  simp only [Tryz.f15]
  repeat' (first
    | refine need_of (of_eq_true (fitV [⟨0, 1, nilS⟩, ⟨0, 5, nilS⟩, ⟨0, 6, nilS⟩])) ?_
    | simp -implicitDefEqProofs only [go_sem, Nat.reduceAdd, Nat.reduceEqDiff, Nat.reduceLT, Nat.reduceBEq, Nat.reduceLeDiff, Nat.reduceSub, Int.reduceLE, Int.reduceNeg, Int.reduceEq, Int.reduceToNat]
    | with_reducible refine know_of fun _ => ?_
    | (with_reducible refine does_then (live18_node _ ?_))
    | (with_reducible refine does_then (law18_code _ _ ?_))
    | (with_reducible refine does_then (live18_eq _ ?_))
    | with_reducible refine ifD1 (by omega) ?_
    | with_reducible refine ifD0 (by omega) ?_
    | with_reducible refine ifE1 (by omega) ?_
    | with_reducible refine ifE0 (by omega) ?_
    | with_reducible refine ifN1 (by omega) ?_
    | with_reducible refine ifN0 (by omega) ?_
    | with_reducible refine ifD_of (fun _ => ?_) (fun _ => ?_)
    | with_reducible refine ifE_of (fun _ => ?_) (fun _ => ?_)
    | with_reducible refine ifN_of (fun _ => ?_) (fun _ => ?_)
    | with_reducible refine Go.V.if1 (by assumption) ?_
    | with_reducible refine Go.V.if0 (by assumption) ?_
    | with_reducible refine if_of (fun _ => ?_) (fun _ => ?_)
    | with_reducible refine s_of (idx_get _ _ _ (by omega) (by omega)) ?_
    | with_reducible refine s_of (idx_get _ _ _ (by omega) (by simp only [List.length_set, List.length_append, List.length_take, List.length_drop, List.length_reverse, List.length_singleton]; omega)) ?_
    | with_reducible refine s_of (map_get _ _ _ (by omega)) ?_
    | with_reducible refine s_of (map_get _ _ _ (by simp only [List.length_set]; omega)) ?_
    | with_reducible refine s_of (if_neg (by omega)) ?_
    | with_reducible refine s_of (if_pos (by omega)) ?_
    | with_reducible refine need_of (by omega) ?_
    | with_reducible refine nil_of (fun _ => ?_) ?_
    | with_reducible refine alt_of ?_ ?_
    | (with_reducible apply join_of; intro _ _)
    | with_reducible assumption)
  all_goals first | exact h | trace_state
theorem law18_of (l c : List Count) (n : Node) (Q : PV → Mem → Prop) (hx : n.exprs.length ≤ 1000) (hc : n.cols.length ≤ 1000) (hl : Slim 1000 1000 l) (hl2 : Slim 1000 1000 c) (h : Q (.tup [.own 0, vb ((nodeD n (insD n l c)).2 == 0)]) [.row 61 ((nodeD n (insD n l c)).1.map eC)]) : Does Tryz.prog 16 [.sl (l.map eC), .cad [vi n.kind, .sl (n.ins.map eI), .sl (n.kinds.map eI), .sl (n.exprs.map eE), .sl (n.cols.map eI), vi n.key, vi n.n, vi n.size, vi n.slide], .cad [.sl (c.map eC)]] [] 0 Q := by
  refine does_of mixed Tryz.func16 rfl (by kernel_rfl) no (slots []) ?_
  simp only [Tryz.f16]
  have k2 : n.kind = 15 → ∀ Q : PV → Mem → Prop, Q (.tup [.own 0, vi (nodeD n (insD n l c)).2]) [.row 61 ((nodeD n (insD n l c)).1.map eC)] → Does Tryz.prog 17 [.agg [vi n.kind, .sl (n.ins.map eI), .sl (n.kinds.map eI), .sl (n.exprs.map eE), .sl (n.cols.map eI), vi n.key, vi n.n, vi n.size, vi n.slide], .sl [[.sl (l.map eC)], [.sl (c.map eC)]]] [] 0 Q := fun hk Q hQ => by
    have e : insD n l c = [l, c] := if_pos hk
    rw [e] at hQ
    exact deno_Node n [l, c] Q hx hc (by simp) (by simp [hl.1, hl2.1]) (by simp; exact ⟨hl.2, hl2.2⟩) hQ
  have k1 : n.kind ≠ 15 → ∀ Q : PV → Mem → Prop, Q (.tup [.own 0, vi (nodeD n (insD n l c)).2]) [.row 61 ((nodeD n (insD n l c)).1.map eC)] → Does Tryz.prog 17 [.agg [vi n.kind, .sl (n.ins.map eI), .sl (n.kinds.map eI), .sl (n.exprs.map eE), .sl (n.cols.map eI), vi n.key, vi n.n, vi n.size, vi n.slide], .sl [[.sl (l.map eC)]]] [] 0 Q := fun hk Q hQ => by
    have e : insD n l c = [l] := if_neg hk
    rw [e] at hQ
    exact deno_Node n [l] Q hx hc (by simp) (by simp [hl.1]) (by simp; exact hl.2) hQ
  repeat' (first
    | simp -implicitDefEqProofs only [go_sem, eC, eN, eE, eL, Nat.reduceAdd, Nat.reduceEqDiff, Nat.reduceLT, Nat.reduceBEq, Nat.reduceLeDiff, Nat.reduceSub, Int.reduceLE, Int.reduceNeg, Int.reduceEq, Int.reduceToNat]
    | with_reducible refine know_of fun _ => ?_
    | (with_reducible refine does_then (k2 (by assumption) _ ?_))
    | (with_reducible refine does_then (k1 (by assumption) _ ?_))
    | (with_reducible refine does_then (law18_code _ _ ?_))
    | with_reducible refine ifD1 (by omega) ?_
    | with_reducible refine ifD0 (by omega) ?_
    | with_reducible refine ifE1 (by omega) ?_
    | with_reducible refine ifE0 (by omega) ?_
    | with_reducible refine ifN1 (by omega) ?_
    | with_reducible refine ifN0 (by omega) ?_
    | with_reducible refine ifD_of (fun _ => ?_) (fun _ => ?_)
    | with_reducible refine ifE_of (fun _ => ?_) (fun _ => ?_)
    | with_reducible refine ifN_of (fun _ => ?_) (fun _ => ?_)
    | with_reducible refine Go.V.if1 (by assumption) ?_
    | with_reducible refine Go.V.if0 (by assumption) ?_
    | with_reducible refine if_of (fun _ => ?_) (fun _ => ?_)
    | with_reducible refine s_of (idx_get _ _ _ (by omega) (by omega)) ?_
    | with_reducible refine s_of (idx_get _ _ _ (by omega) (by simp only [List.length_set, List.length_append, List.length_take, List.length_drop, List.length_reverse, List.length_singleton]; omega)) ?_
    | with_reducible refine s_of (map_get _ _ _ (by omega)) ?_
    | with_reducible refine s_of (map_get _ _ _ (by simp only [List.length_set]; omega)) ?_
    | with_reducible refine s_of (if_neg (by omega)) ?_
    | with_reducible refine s_of (if_pos (by omega)) ?_
    | with_reducible refine need_of (by omega) ?_
    | with_reducible refine nil_of (fun _ => ?_) ?_
    | with_reducible refine alt_of ?_ ?_
    | (with_reducible apply join_of; intro _ _)
    | with_reducible assumption)
  all_goals first | exact h | trace_state
theorem muchC_slim {l : List Count} (h : muchC l = false) : Slim 60 30 l := by
  simp only [muchC, Bool.or_eq_false_iff, decide_eq_false_iff_not, List.any_eq_false] at h
  refine ⟨by omega, fun c hc => ?_⟩
  have := h.2 c hc
  simp only [longR, Bool.or_eq_true, decide_eq_true_eq, not_or] at this
  omega
theorem slim_app {a b : List Count} {B R : Nat} (ha : Slim B R a) (hb : Slim B R b) : Slim (B + B) R (a ++ b) := ⟨by rw [List.length_append]; omega, fun c hc => (List.mem_append.1 hc).elim (ha.2 c) (hb.2 c)⟩
theorem slim_le {a : List Count} {B R B' R' : Nat} (h : Slim B R a) (h1 : B ≤ B') (h2 : R ≤ R') : Slim B' R' a := ⟨Nat.le_trans h.1 h1, fun c hc => Nat.le_trans (h.2 c hc) h2⟩
theorem lessAll_slim {B R : Nat} : ∀ (ls acc : List (List Count)), (∀ l ∈ ls, Slim B R l) → (∀ l ∈ acc, Slim B R l) → (lessAll ls acc).1.length ≤ acc.length + ls.length ∧ ∀ l ∈ (lessAll ls acc).1, Slim B R l
  | [], acc, _, h => ⟨by simp [lessAll], by simpa [lessAll] using h⟩
  | l :: ls, acc, h, ha => by
    rw [lessAll]
    split
    · rename_i h0
      obtain ⟨h1, h2⟩ := lessAll_slim ls (acc ++ [(lessC l).1]) (fun x hx => h x (List.mem_cons_of_mem _ hx)) (fun x hx => (List.mem_append.1 hx).elim (ha x) fun hx => by rw [List.mem_singleton.1 hx]; exact lessC_fine (h l List.mem_cons_self) h0)
      rw [List.length_append, List.length_singleton] at h1
      exact ⟨by rw [List.length_cons]; omega, h2⟩
    · exact ⟨Nat.zero_le _, fun x hx => by cases hx⟩
theorem nodeD_len {n : Node} {ins : List (List Count)} {B R : Nat} (hg : ¬ (9 ≤ n.kind ∧ n.kind ≤ 14)) (h : ∀ l ∈ ins, Slim B R l) : (nodeD n ins).1.length ≤ B * B + 512 * B := by
  unfold nodeD
  split
  · exact Nat.zero_le _
  split
  · exact Nat.zero_le _
  rename_i h1 h2
  have ha : askedD n.kind ins.length = true := by
    cases hh : askedD n.kind ins.length with
    | true => rfl
    | false => exact absurd (.inl hh) h2
  obtain ⟨_, h8, _⟩ := asked_len ha
  obtain ⟨l1, l2⟩ := lessAll_slim ins [] h (fun l hl => by cases hl)
  split
  · unfold makeD
    rw [if_neg hg]
    generalize (lessAll ins []).1 = acc at *
    have hget : ∀ k, (acc.getD k default).length ≤ B := fun k => by
      by_cases hk : k < acc.length
      · exact (l2 _ (getD_mem' acc k hk)).1
      · rw [List.getD_eq_getElem?_getD, List.getElem?_eq_none (by omega)]; exact Nat.zero_le _
    split
    · split
      · have hj := (joinD_ok (key := n.key) (a := acc.getD 0 default) (b := acc.getD 1 default) (B := (acc.getD 0 default ++ acc.getD 1 default).foldr (fun c m => max c.row.length m) 0) (fun c hc => by
          have : ∀ (l : List Count), c ∈ l → c.row.length ≤ l.foldr (fun c m => max c.row.length m) 0 := fun l => by
            induction l with
            | nil => intro h; cases h
            | cons x l ih => intro h; rw [List.foldr_cons]; rcases List.mem_cons.1 h with rfl | h; omega; have := ih h; omega
          exact this _ (List.mem_append_left _ hc)) (fun c hc => by
          have : ∀ (l : List Count), c ∈ l → c.row.length ≤ l.foldr (fun c m => max c.row.length m) 0 := fun l => by
            induction l with
            | nil => intro h; cases h
            | cons x l ih => intro h; rw [List.foldr_cons]; rcases List.mem_cons.1 h with rfl | h; omega; have := ih h; omega
          exact this _ (List.mem_append_right _ hc))).1
        have := lessC_len (joinD n.key (acc.getD 0 default) (acc.getD 1 default)).1
        have := Nat.mul_le_mul (hget 0) (hget 1)
        omega
      · exact Nat.zero_le _
    · split
      · have h3 := lessC_len (eachF (rowN n) acc.flatten []).1
        have h4 := eachF_len (rowN_len n) acc.flatten []
        have h5 := (flat_fine acc l2).1
        rw [List.length_nil, Nat.zero_add] at h4 l1
        have h6 : acc.length * B ≤ 8 * B := Nat.mul_le_mul_right _ (by omega)
        omega
      · exact Nat.zero_le _
  · exact Nat.zero_le _
theorem wide_ok {n : Node} (h : wideN n = false) : n.exprs.length ≤ 20 ∧ n.cols.length ≤ 30 := by
  unfold wideN at h
  simp only [Bool.or_eq_false_iff, decide_eq_false_iff_not] at h
  omega
theorem wide_x {n : Node} (h : wideN n = false) : n.exprs.length ≤ 1000 := by have := wide_ok h; omega
theorem wide_c {n : Node} (h : wideN n = false) : n.cols.length ≤ 1000 := by have := wide_ok h; omega
theorem many_s {a b c x : List Count} (h : manyD [a, b, c] = false) (hx : x ∈ [a, b, c]) : Slim 60 30 x := muchC_slim ((many_0 h).2 x hx).2
theorem many_a {a b c : List Count} (h : manyD [a, b, c] = false) : Slim 60 30 a := many_s h (by simp)
theorem many_b {a b c : List Count} (h : manyD [a, b, c] = false) : Slim 60 30 b := many_s h (by simp)
theorem many_c {a b c : List Count} (h : manyD [a, b, c] = false) : Slim 60 30 c := many_s h (by simp)
theorem ins_slim {n : Node} {l c : List Count} {B R : Nat} (hl : Slim B R l) (hc : Slim B R c) : ∀ x ∈ insD n l c, Slim B R x := fun x hx => by
  unfold insD at hx
  split at hx <;> simp at hx
  · rcases hx with rfl | rfl <;> assumption
  · subst hx; assumption
theorem deno_len {n : Node} {l c : List Count} (hg : (groupK n.kind).2 = false) (hl : Slim 60 30 l) (hc : Slim 60 30 c) : (nodeD n (insD n l c)).1.length ≤ 40000 := by
  have := nodeD_len (groupK_f hg) (ins_slim (n := n) hl hc)
  omega
theorem law18_DenoLinear (n : Node) (a b c : List Count) (Q : PV → Mem → Prop)  (h : Q (vb true) []) : Does Tryz.prog 3 [.agg [vi n.kind, .sl (n.ins.map eI), .sl (n.kinds.map eI), .sl (n.exprs.map eE), .sl (n.cols.map eI), vi n.key, vi n.n, vi n.size, vi n.slide], .sl (a.map eC), .sl (b.map eC), .sl (c.map eC)] [] 0 Q := by
  refine does_of mixed Tryz.func3 rfl (by kernel_rfl) no (slots []) ?_
  simp only [Tryz.f3]
  have hmy : ∀ Q : PV → Mem → Prop, Q (vb (manyD [a, b, c])) [] → Does Tryz.prog 14 [.sl [[.sl (a.map eC)], [.sl (b.map eC)], [.sl (c.map eC)]]] [] 0 Q := fun Q hQ => law18_many [a, b, c] Q hQ
  repeat' (first
    | refine need_of (of_eq_true (fitL [a, b, c])) ?_
    | simp -implicitDefEqProofs only [go_sem, eC, eN, eE, eL, Nat.reduceAdd, Nat.reduceEqDiff, Nat.reduceLT, Nat.reduceBEq, Nat.reduceLeDiff, Nat.reduceSub, Int.reduceLE, Int.reduceNeg, Int.reduceEq, Int.reduceToNat]
    | with_reducible refine know_of fun _ => ?_
    | (with_reducible refine does_then (plan_Group n _ ?_))
    | (with_reducible refine does_then (law18_wide n _ ?_))
    | (with_reducible refine does_then (hmy _ ?_))
    | (with_reducible refine does_then (law18_live _ ?_))
    | (with_reducible refine does_then (law18_of a c n _ (wide_x (by assumption)) (wide_c (by assumption)) (slim_le (many_a (b := b) (c := c) (by assumption)) (by omega) (by omega)) (slim_le (many_c (a := a) (b := b) (by assumption)) (by omega) (by omega)) ?_))
    | (with_reducible refine does_then (law18_of b c n _ (wide_x (by assumption)) (wide_c (by assumption)) (slim_le (many_b (a := a) (c := c) (by assumption)) (by omega) (by omega)) (slim_le (many_c (a := a) (b := b) (by assumption)) (by omega) (by omega)) ?_))
    | (with_reducible refine does_then (law18_of (a ++ b) c n _ (wide_x (by assumption)) (wide_c (by assumption)) (slim_le (slim_app (many_a (b := b) (c := c) (by assumption)) (many_b (a := a) (c := c) (by assumption))) (by omega) (by omega)) (slim_le (many_c (a := a) (b := b) (by assumption)) (by omega) (by omega)) ?_))
    | (with_reducible refine does_then (law18_together a b _ (by have := (many_a (b := b) (c := c) (by assumption)).1; omega) (by have := (many_b (a := a) (c := c) (by assumption)).1; omega) ?_))
    | (with_reducible refine does_then (law18_together (nodeD n (insD n a c)).1 (nodeD n (insD n b c)).1 _ (by have := (deno_len (by assumption) (many_a (b := b) (c := c) (by assumption)) (many_c (a := a) (b := b) (by assumption))); omega) (by have := (deno_len (by assumption) (many_b (a := a) (c := c) (by assumption)) (many_c (a := a) (b := b) (by assumption))); omega) ?_))
    | (with_reducible refine does_then (ref07_Less _ _ (by rw [List.length_append]; have := (deno_len (by assumption) (many_a (b := b) (c := c) (by assumption)) (many_c (a := a) (b := b) (by assumption))); have := (deno_len (by assumption) (many_b (a := a) (c := c) (by assumption)) (many_c (a := a) (b := b) (by assumption))); omega) ?_))
    | (with_reducible refine does_then (ref07_SameCounts _ _ _ ?_))
    | (with_reducible refine does_then (law18_code _ _ ?_))
    | with_reducible refine ifD1 (by omega) ?_
    | with_reducible refine ifD0 (by omega) ?_
    | with_reducible refine ifE1 (by omega) ?_
    | with_reducible refine ifE0 (by omega) ?_
    | with_reducible refine ifN1 (by omega) ?_
    | with_reducible refine ifN0 (by omega) ?_
    | with_reducible refine ifD_of (fun _ => ?_) (fun _ => ?_)
    | with_reducible refine ifE_of (fun _ => ?_) (fun _ => ?_)
    | with_reducible refine ifN_of (fun _ => ?_) (fun _ => ?_)
    | with_reducible refine Go.V.if1 (by assumption) ?_
    | with_reducible refine Go.V.if0 (by assumption) ?_
    | with_reducible refine if_of (fun _ => ?_) (fun _ => ?_)
    | with_reducible refine s_of (idx_get _ _ _ (by omega) (by omega)) ?_
    | with_reducible refine s_of (idx_get _ _ _ (by omega) (by simp only [List.length_set, List.length_append, List.length_take, List.length_drop, List.length_reverse, List.length_singleton]; omega)) ?_
    | with_reducible refine s_of (map_get _ _ _ (by omega)) ?_
    | with_reducible refine s_of (map_get _ _ _ (by simp only [List.length_set]; omega)) ?_
    | with_reducible refine s_of (if_neg (by omega)) ?_
    | with_reducible refine s_of (if_pos (by omega)) ?_
    | with_reducible refine need_of (by omega) ?_
    | with_reducible refine nil_of (fun _ => ?_) ?_
    | with_reducible refine alt_of ?_ ?_
    | (with_reducible apply join_of; intro _ _)
    | with_reducible assumption)
  · rename_i hx hy hz hs hsame
    exact absurd (denoLinear_law (groupK_f (by assumption)) hx hy hz hs) (by rw [hsame]; exact Bool.false_ne_true)
end Go.V
