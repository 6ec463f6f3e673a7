import Derived.Test.YtbccejopeclhmaaGreatLA
namespace Go.V
open Go Go.RowKit Go.Proofs
set_option maxRecDepth 100000
set_option maxHeartbeats 4000000
set_option linter.unusedVariables false
set_option linter.unusedSimpArgs false
theorem appV (A : List Val) (v : Val) : A.map eV ++ [[vi v.kind, vi v.int, vs v.str]] = (A ++ [v]).map eV := by rw [List.map_append]; rfl
theorem takeV (n : Nat) (s : List Val) : List.take n (s.map eV) = (s.take n).map eV := by rw [List.map_take]
theorem dropV2 (n : Nat) (s : List Val) : List.drop n (List.take s.length (s.map eV)) = (s.drop n).map eV := by rw [← List.length_map (f := eV), List.take_length, List.map_drop]
def longT (l : List Term) : Bool := decide (80 < l.length) || l.any fun t => decide (5000 < t.str.size)
def longR (l : List Val) : Bool := decide (30 < l.length) || l.any fun v => decide (5000 < v.str.size)
def muchU (l : List Up) : Bool := decide (60 < l.length) || l.any fun u => longR u.row
def muchC (l : List Count) : Bool := decide (60 < l.length) || l.any fun u => longR u.row
def wideN (n : Node) : Bool := (decide (20 < n.exprs.length) || decide (30 < n.cols.length)) || n.exprs.any longT
def partR (r : List Val) : List Int → Option (List Val)
  | [] => some []
  | c :: l => if c < 0 ∨ (r.length : Int) ≤ c then none else (partR r l).map (r.getD c.toNat default :: ·)
theorem wany {α : Type} (l : List α) (p : α → Bool) (n : Nat) (h : ¬ n < l.length) : (decide (n < l.length) || l.any p) = l.any p := by rw [decide_eq_false h, Bool.false_or]
theorem wany1 {α : Type} (l : List α) (p : α → Bool) (n : Nat) (h : n < l.length) : (decide (n < l.length) || l.any p) = true := by rw [decide_eq_true h, Bool.true_or]
theorem any_t {α : Type} [Inhabited α] {l : List α} {p : α → Bool} {i : Nat} (h : i < l.length) (hp : p (l.getD i default) = true) : (l.drop i).any p = true := by rw [drop_getD l i h, List.any_cons, hp, Bool.true_or]
theorem any_f {α : Type} [Inhabited α] {l : List α} {p : α → Bool} {i : Nat} (h : i < l.length) (hp : p (l.getD i default) = false) : (l.drop i).any p = (l.drop (i + 1)).any p := by rw [drop_getD l i h, List.any_cons, hp, Bool.false_or]
theorem any_e {α : Type} {l : List α} {p : α → Bool} {i : Nat} (h : ¬ i < l.length) : (l.drop i).any p = false := by rw [List.drop_eq_nil_of_le (by omega)]; rfl
theorem ref08_Long (l : List Term) (Q : PV → Mem → Prop)  (h : Q (vb (longT l)) []) : Does Tryz.prog 52 [.sl (l.map eT)] [] 0 Q := by
  refine does_of mixed Tryz.func52 rfl (by kernel_rfl) no (slots [(0, [0, 3])]) ?_
  simp only [Tryz.f52]
  repeat' (first
    | simp -implicitDefEqProofs only [go_sem, eT, Nat.reduceAdd, Nat.reduceEqDiff, Nat.reduceLT, Nat.reduceBEq, Nat.reduceLeDiff, Nat.reduceSub, Int.reduceLE, Int.reduceNeg, Int.reduceEq, Int.reduceToNat]
    | with_reducible refine know_of fun _ => ?_
    | with_reducible refine ifD1 (by omega) ?_
    | with_reducible refine ifD0 (by omega) ?_
    | with_reducible refine ifE1 (by omega) ?_
    | with_reducible refine ifE0 (by omega) ?_
    | with_reducible refine ifN1 (by omega) ?_
    | with_reducible refine ifN0 (by omega) ?_
    | with_reducible refine ifD_of (fun _ => ?_) (fun _ => ?_)
    | with_reducible refine ifE_of (fun _ => ?_) (fun _ => ?_)
    | with_reducible refine ifN_of (fun _ => ?_) (fun _ => ?_)
    | with_reducible refine Go.V.if1 (by assumption) ?_
    | with_reducible refine Go.V.if0 (by assumption) ?_
    | with_reducible refine if_of (fun _ => ?_) (fun _ => ?_)
    | with_reducible refine s_of (idx_get _ _ _ (by omega) (by omega)) ?_
    | with_reducible refine s_of (idx_get _ _ _ (by omega) (by simp only [List.length_set, List.length_append, List.length_take, List.length_drop, List.length_reverse, List.length_singleton]; omega)) ?_
    | with_reducible refine s_of (map_get _ _ _ (by omega)) ?_
    | with_reducible refine s_of (map_get _ _ _ (by simp only [List.length_set]; omega)) ?_
    | with_reducible refine s_of (if_neg (by omega)) ?_
    | with_reducible refine s_of (if_pos (by omega)) ?_
    | with_reducible refine need_of (by omega) ?_
    | with_reducible refine nil_of (fun _ => ?_) ?_
    | with_reducible refine alt_of ?_ ?_
    | (with_reducible apply join_of; intro _ _)
    | with_reducible assumption)
  · unfold longT at h; rw [wany1 _ _ _ (by omega)] at h; exact h
  unfold longT at h
  rw [wany _ _ _ (by omega)] at h
  refine loop_then (loop_ind (σ := Nat) (fun s => [(0, .sl (l.map eT)), (3, vi s)]) (fun s => []) (fun s => (l).length - s) (fun s => s ≤ (l).length ∧ Q (vb (((l).drop s).any fun t => decide (5000 < t.str.size))) []) ?_ 0 ⟨Nat.zero_le _, h⟩)
  rintro X i ⟨hi, hQ⟩ ih
  try dsimp only at ih ⊢
  repeat' (first
    | simp -implicitDefEqProofs only [go_sem, eT, Int.toNat_natCast, Nat.reduceAdd, Nat.reduceEqDiff, Nat.reduceLT, Nat.reduceBEq, Nat.reduceLeDiff, Nat.reduceSub, Int.reduceLE, Int.reduceNeg, Int.reduceEq, Int.reduceToNat]
    | with_reducible refine know_of fun _ => ?_
    | with_reducible refine ifD1 (by omega) ?_
    | with_reducible refine ifD0 (by omega) ?_
    | with_reducible refine ifE1 (by omega) ?_
    | with_reducible refine ifE0 (by omega) ?_
    | with_reducible refine ifN1 (by omega) ?_
    | with_reducible refine ifN0 (by omega) ?_
    | with_reducible refine ifD_of (fun _ => ?_) (fun _ => ?_)
    | with_reducible refine ifE_of (fun _ => ?_) (fun _ => ?_)
    | with_reducible refine ifN_of (fun _ => ?_) (fun _ => ?_)
    | with_reducible refine Go.V.if1 (by assumption) ?_
    | with_reducible refine Go.V.if0 (by assumption) ?_
    | with_reducible refine if_of (fun _ => ?_) (fun _ => ?_)
    | with_reducible refine s_of (idx_get _ _ _ (by omega) (by omega)) ?_
    | with_reducible refine s_of (idx_get _ _ _ (by omega) (by simp only [List.length_set, List.length_append, List.length_take, List.length_drop, List.length_reverse, List.length_singleton]; omega)) ?_
    | with_reducible refine s_of (map_get _ _ _ (by omega)) ?_
    | with_reducible refine s_of (map_get _ _ _ (by simp only [List.length_set]; omega)) ?_
    | with_reducible refine s_of (if_neg (by omega)) ?_
    | with_reducible refine s_of (if_pos (by omega)) ?_
    | with_reducible refine need_of (by omega) ?_
    | with_reducible refine nil_of (fun _ => ?_) ?_
    | with_reducible refine alt_of ?_ ?_
    | (with_reducible apply join_of; intro _ _)
    | with_reducible assumption)
  all_goals first
    | (rw [any_t (by omega) (by first | exact decide_eq_true (by omega) | exact decide_eq_false (by omega))] at hQ; exact hQ)
    | (rw [any_f (by omega) (by first | exact decide_eq_true (by omega) | exact decide_eq_false (by omega))] at hQ; rw [wnat i (by omega)]; exact ih (i + 1) (by omega) ⟨by omega, hQ⟩)
    | (rw [any_e (by omega)] at hQ; exact hQ)
theorem ref03_Long (l : List Val) (Q : PV → Mem → Prop)  (h : Q (vb (longR l)) []) : Does Tryz.prog 74 [.sl (l.map eV)] [] 0 Q := by
  refine does_of mixed Tryz.func74 rfl (by kernel_rfl) no (slots [(0, [0, 3])]) ?_
  simp only [Tryz.f74]
  repeat' (first
    | simp -implicitDefEqProofs only [go_sem, eV, Nat.reduceAdd, Nat.reduceEqDiff, Nat.reduceLT, Nat.reduceBEq, Nat.reduceLeDiff, Nat.reduceSub, Int.reduceLE, Int.reduceNeg, Int.reduceEq, Int.reduceToNat]
    | with_reducible refine know_of fun _ => ?_
    | with_reducible refine ifD1 (by omega) ?_
    | with_reducible refine ifD0 (by omega) ?_
    | with_reducible refine ifE1 (by omega) ?_
    | with_reducible refine ifE0 (by omega) ?_
    | with_reducible refine ifN1 (by omega) ?_
    | with_reducible refine ifN0 (by omega) ?_
    | with_reducible refine ifD_of (fun _ => ?_) (fun _ => ?_)
    | with_reducible refine ifE_of (fun _ => ?_) (fun _ => ?_)
    | with_reducible refine ifN_of (fun _ => ?_) (fun _ => ?_)
    | with_reducible refine Go.V.if1 (by assumption) ?_
    | with_reducible refine Go.V.if0 (by assumption) ?_
    | with_reducible refine if_of (fun _ => ?_) (fun _ => ?_)
    | with_reducible refine s_of (idx_get _ _ _ (by omega) (by omega)) ?_
    | with_reducible refine s_of (idx_get _ _ _ (by omega) (by simp only [List.length_set, List.length_append, List.length_take, List.length_drop, List.length_reverse, List.length_singleton]; omega)) ?_
    | with_reducible refine s_of (map_get _ _ _ (by omega)) ?_
    | with_reducible refine s_of (map_get _ _ _ (by simp only [List.length_set]; omega)) ?_
    | with_reducible refine s_of (if_neg (by omega)) ?_
    | with_reducible refine s_of (if_pos (by omega)) ?_
    | with_reducible refine need_of (by omega) ?_
    | with_reducible refine nil_of (fun _ => ?_) ?_
    | with_reducible refine alt_of ?_ ?_
    | (with_reducible apply join_of; intro _ _)
    | with_reducible assumption)
  · unfold longR at h; rw [wany1 _ _ _ (by omega)] at h; exact h
  unfold longR at h
  rw [wany _ _ _ (by omega)] at h
  refine loop_then (loop_ind (σ := Nat) (fun s => [(0, .sl (l.map eV)), (3, vi s)]) (fun s => []) (fun s => (l).length - s) (fun s => s ≤ (l).length ∧ Q (vb (((l).drop s).any fun t => decide (5000 < t.str.size))) []) ?_ 0 ⟨Nat.zero_le _, h⟩)
  rintro X i ⟨hi, hQ⟩ ih
  try dsimp only at ih ⊢
  repeat' (first
    | simp -implicitDefEqProofs only [go_sem, eV, Int.toNat_natCast, Nat.reduceAdd, Nat.reduceEqDiff, Nat.reduceLT, Nat.reduceBEq, Nat.reduceLeDiff, Nat.reduceSub, Int.reduceLE, Int.reduceNeg, Int.reduceEq, Int.reduceToNat]
    | with_reducible refine know_of fun _ => ?_
    | with_reducible refine ifD1 (by omega) ?_
    | with_reducible refine ifD0 (by omega) ?_
    | with_reducible refine ifE1 (by omega) ?_
    | with_reducible refine ifE0 (by omega) ?_
    | with_reducible refine ifN1 (by omega) ?_
    | with_reducible refine ifN0 (by omega) ?_
    | with_reducible refine ifD_of (fun _ => ?_) (fun _ => ?_)
    | with_reducible refine ifE_of (fun _ => ?_) (fun _ => ?_)
    | with_reducible refine ifN_of (fun _ => ?_) (fun _ => ?_)
    | with_reducible refine Go.V.if1 (by assumption) ?_
    | with_reducible refine Go.V.if0 (by assumption) ?_
    | with_reducible refine if_of (fun _ => ?_) (fun _ => ?_)
    | with_reducible refine s_of (idx_get _ _ _ (by omega) (by omega)) ?_
    | with_reducible refine s_of (idx_get _ _ _ (by omega) (by simp only [List.length_set, List.length_append, List.length_take, List.length_drop, List.length_reverse, List.length_singleton]; omega)) ?_
    | with_reducible refine s_of (map_get _ _ _ (by omega)) ?_
    | with_reducible refine s_of (map_get _ _ _ (by simp only [List.length_set]; omega)) ?_
    | with_reducible refine s_of (if_neg (by omega)) ?_
    | with_reducible refine s_of (if_pos (by omega)) ?_
    | with_reducible refine need_of (by omega) ?_
    | with_reducible refine nil_of (fun _ => ?_) ?_
    | with_reducible refine alt_of ?_ ?_
    | (with_reducible apply join_of; intro _ _)
    | with_reducible assumption)
  all_goals first
    | (rw [any_t (by omega) (by first | exact decide_eq_true (by omega) | exact decide_eq_false (by omega))] at hQ; exact hQ)
    | (rw [any_f (by omega) (by first | exact decide_eq_true (by omega) | exact decide_eq_false (by omega))] at hQ; rw [wnat i (by omega)]; exact ih (i + 1) (by omega) ⟨by omega, hQ⟩)
    | (rw [any_e (by omega)] at hQ; exact hQ)
theorem ref07_Much (l : List Up) (Q : PV → Mem → Prop)  (h : Q (vb (muchU l)) []) : Does Tryz.prog 30 [.sl (l.map eU)] [] 0 Q := by
  refine does_of mixed Tryz.func30 rfl (by kernel_rfl) no (slots [(0, [0, 3])]) ?_
  simp only [Tryz.f30]
  repeat' (first
    | simp -implicitDefEqProofs only [go_sem, eU, Nat.reduceAdd, Nat.reduceEqDiff, Nat.reduceLT, Nat.reduceBEq, Nat.reduceLeDiff, Nat.reduceSub, Int.reduceLE, Int.reduceNeg, Int.reduceEq, Int.reduceToNat]
    | with_reducible refine know_of fun _ => ?_
    | (with_reducible refine does_then (ref03_Long _ _ ?_))
    | with_reducible refine ifD1 (by omega) ?_
    | with_reducible refine ifD0 (by omega) ?_
    | with_reducible refine ifE1 (by omega) ?_
    | with_reducible refine ifE0 (by omega) ?_
    | with_reducible refine ifN1 (by omega) ?_
    | with_reducible refine ifN0 (by omega) ?_
    | with_reducible refine ifD_of (fun _ => ?_) (fun _ => ?_)
    | with_reducible refine ifE_of (fun _ => ?_) (fun _ => ?_)
    | with_reducible refine ifN_of (fun _ => ?_) (fun _ => ?_)
    | with_reducible refine Go.V.if1 (by assumption) ?_
    | with_reducible refine Go.V.if0 (by assumption) ?_
    | with_reducible refine if_of (fun _ => ?_) (fun _ => ?_)
    | with_reducible refine s_of (idx_get _ _ _ (by omega) (by omega)) ?_
    | with_reducible refine s_of (idx_get _ _ _ (by omega) (by simp only [List.length_set, List.length_append, List.length_take, List.length_drop, List.length_reverse, List.length_singleton]; omega)) ?_
    | with_reducible refine s_of (map_get _ _ _ (by omega)) ?_
    | with_reducible refine s_of (map_get _ _ _ (by simp only [List.length_set]; omega)) ?_
    | with_reducible refine s_of (if_neg (by omega)) ?_
    | with_reducible refine s_of (if_pos (by omega)) ?_
    | with_reducible refine need_of (by omega) ?_
    | with_reducible refine nil_of (fun _ => ?_) ?_
    | with_reducible refine alt_of ?_ ?_
    | (with_reducible apply join_of; intro _ _)
    | with_reducible assumption)
  · unfold muchU at h; rw [wany1 _ _ _ (by omega)] at h; exact h
  unfold muchU at h
  rw [wany _ _ _ (by omega)] at h
  refine loop_then (loop_ind (σ := Nat) (fun s => [(0, .sl (l.map eU)), (3, vi s)]) (fun s => []) (fun s => (l).length - s) (fun s => s ≤ (l).length ∧ Q (vb (((l).drop s).any fun u => longR u.row)) []) ?_ 0 ⟨Nat.zero_le _, h⟩)
  rintro X i ⟨hi, hQ⟩ ih
  try dsimp only at ih ⊢
  repeat' (first
    | simp -implicitDefEqProofs only [go_sem, eU, Int.toNat_natCast, Nat.reduceAdd, Nat.reduceEqDiff, Nat.reduceLT, Nat.reduceBEq, Nat.reduceLeDiff, Nat.reduceSub, Int.reduceLE, Int.reduceNeg, Int.reduceEq, Int.reduceToNat]
    | with_reducible refine know_of fun _ => ?_
    | (with_reducible refine does_then (ref03_Long _ _ ?_))
    | with_reducible refine ifD1 (by omega) ?_
    | with_reducible refine ifD0 (by omega) ?_
    | with_reducible refine ifE1 (by omega) ?_
    | with_reducible refine ifE0 (by omega) ?_
    | with_reducible refine ifN1 (by omega) ?_
    | with_reducible refine ifN0 (by omega) ?_
    | with_reducible refine ifD_of (fun _ => ?_) (fun _ => ?_)
    | with_reducible refine ifE_of (fun _ => ?_) (fun _ => ?_)
    | with_reducible refine ifN_of (fun _ => ?_) (fun _ => ?_)
    | with_reducible refine Go.V.if1 (by assumption) ?_
    | with_reducible refine Go.V.if0 (by assumption) ?_
    | with_reducible refine if_of (fun _ => ?_) (fun _ => ?_)
    | with_reducible refine s_of (idx_get _ _ _ (by omega) (by omega)) ?_
    | with_reducible refine s_of (idx_get _ _ _ (by omega) (by simp only [List.length_set, List.length_append, List.length_take, List.length_drop, List.length_reverse, List.length_singleton]; omega)) ?_
    | with_reducible refine s_of (map_get _ _ _ (by omega)) ?_
    | with_reducible refine s_of (map_get _ _ _ (by simp only [List.length_set]; omega)) ?_
    | with_reducible refine s_of (if_neg (by omega)) ?_
    | with_reducible refine s_of (if_pos (by omega)) ?_
    | with_reducible refine need_of (by omega) ?_
    | with_reducible refine nil_of (fun _ => ?_) ?_
    | with_reducible refine alt_of ?_ ?_
    | (with_reducible apply join_of; intro _ _)
    | with_reducible assumption)
  all_goals first
    | (rw [any_t (by omega) (by assumption)] at hQ; exact hQ)
    | (rw [any_f (by omega) (by assumption)] at hQ; rw [wnat i (by omega)]; exact ih (i + 1) (by omega) ⟨by omega, hQ⟩)
    | (rw [any_e (by omega)] at hQ; exact hQ)
theorem ref07_MuchCounts (l : List Count) (Q : PV → Mem → Prop)  (h : Q (vb (muchC l)) []) : Does Tryz.prog 53 [.sl (l.map eC)] [] 0 Q := by
  refine does_of mixed Tryz.func53 rfl (by kernel_rfl) no (slots [(0, [0, 3])]) ?_
  simp only [Tryz.f53]
  repeat' (first
    | simp -implicitDefEqProofs only [go_sem, eC, Nat.reduceAdd, Nat.reduceEqDiff, Nat.reduceLT, Nat.reduceBEq, Nat.reduceLeDiff, Nat.reduceSub, Int.reduceLE, Int.reduceNeg, Int.reduceEq, Int.reduceToNat]
    | with_reducible refine know_of fun _ => ?_
    | (with_reducible refine does_then (ref03_Long _ _ ?_))
    | with_reducible refine ifD1 (by omega) ?_
    | with_reducible refine ifD0 (by omega) ?_
    | with_reducible refine ifE1 (by omega) ?_
    | with_reducible refine ifE0 (by omega) ?_
    | with_reducible refine ifN1 (by omega) ?_
    | with_reducible refine ifN0 (by omega) ?_
    | with_reducible refine ifD_of (fun _ => ?_) (fun _ => ?_)
    | with_reducible refine ifE_of (fun _ => ?_) (fun _ => ?_)
    | with_reducible refine ifN_of (fun _ => ?_) (fun _ => ?_)
    | with_reducible refine Go.V.if1 (by assumption) ?_
    | with_reducible refine Go.V.if0 (by assumption) ?_
    | with_reducible refine if_of (fun _ => ?_) (fun _ => ?_)
    | with_reducible refine s_of (idx_get _ _ _ (by omega) (by omega)) ?_
    | with_reducible refine s_of (idx_get _ _ _ (by omega) (by simp only [List.length_set, List.length_append, List.length_take, List.length_drop, List.length_reverse, List.length_singleton]; omega)) ?_
    | with_reducible refine s_of (map_get _ _ _ (by omega)) ?_
    | with_reducible refine s_of (map_get _ _ _ (by simp only [List.length_set]; omega)) ?_
    | with_reducible refine s_of (if_neg (by omega)) ?_
    | with_reducible refine s_of (if_pos (by omega)) ?_
    | with_reducible refine need_of (by omega) ?_
    | with_reducible refine nil_of (fun _ => ?_) ?_
    | with_reducible refine alt_of ?_ ?_
    | (with_reducible apply join_of; intro _ _)
    | with_reducible assumption)
  · unfold muchC at h; rw [wany1 _ _ _ (by omega)] at h; exact h
  unfold muchC at h
  rw [wany _ _ _ (by omega)] at h
  refine loop_then (loop_ind (σ := Nat) (fun s => [(0, .sl (l.map eC)), (3, vi s)]) (fun s => []) (fun s => (l).length - s) (fun s => s ≤ (l).length ∧ Q (vb (((l).drop s).any fun u => longR u.row)) []) ?_ 0 ⟨Nat.zero_le _, h⟩)
  rintro X i ⟨hi, hQ⟩ ih
  try dsimp only at ih ⊢
  repeat' (first
    | simp -implicitDefEqProofs only [go_sem, eC, Int.toNat_natCast, Nat.reduceAdd, Nat.reduceEqDiff, Nat.reduceLT, Nat.reduceBEq, Nat.reduceLeDiff, Nat.reduceSub, Int.reduceLE, Int.reduceNeg, Int.reduceEq, Int.reduceToNat]
    | with_reducible refine know_of fun _ => ?_
    | (with_reducible refine does_then (ref03_Long _ _ ?_))
    | with_reducible refine ifD1 (by omega) ?_
    | with_reducible refine ifD0 (by omega) ?_
    | with_reducible refine ifE1 (by omega) ?_
    | with_reducible refine ifE0 (by omega) ?_
    | with_reducible refine ifN1 (by omega) ?_
    | with_reducible refine ifN0 (by omega) ?_
    | with_reducible refine ifD_of (fun _ => ?_) (fun _ => ?_)
    | with_reducible refine ifE_of (fun _ => ?_) (fun _ => ?_)
    | with_reducible refine ifN_of (fun _ => ?_) (fun _ => ?_)
    | with_reducible refine Go.V.if1 (by assumption) ?_
    | with_reducible refine Go.V.if0 (by assumption) ?_
    | with_reducible refine if_of (fun _ => ?_) (fun _ => ?_)
    | with_reducible refine s_of (idx_get _ _ _ (by omega) (by omega)) ?_
    | with_reducible refine s_of (idx_get _ _ _ (by omega) (by simp only [List.length_set, List.length_append, List.length_take, List.length_drop, List.length_reverse, List.length_singleton]; omega)) ?_
    | with_reducible refine s_of (map_get _ _ _ (by omega)) ?_
    | with_reducible refine s_of (map_get _ _ _ (by simp only [List.length_set]; omega)) ?_
    | with_reducible refine s_of (if_neg (by omega)) ?_
    | with_reducible refine s_of (if_pos (by omega)) ?_
    | with_reducible refine need_of (by omega) ?_
    | with_reducible refine nil_of (fun _ => ?_) ?_
    | with_reducible refine alt_of ?_ ?_
    | (with_reducible apply join_of; intro _ _)
    | with_reducible assumption)
  all_goals first
    | (rw [any_t (by omega) (by assumption)] at hQ; exact hQ)
    | (rw [any_f (by omega) (by assumption)] at hQ; rw [wnat i (by omega)]; exact ih (i + 1) (by omega) ⟨by omega, hQ⟩)
    | (rw [any_e (by omega)] at hQ; exact hQ)
end Go.V
