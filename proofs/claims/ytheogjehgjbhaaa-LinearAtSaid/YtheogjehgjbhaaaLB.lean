import Derived.Test.YtheogjehgjbhaaaL9
namespace Go.V
open Go Go.RowKit Go.Proofs
set_option maxRecDepth 100000
set_option maxHeartbeats 4000000
set_option linter.unusedVariables false
set_option linter.unusedSimpArgs false
theorem kz {Q : PV → Mem → Prop} {b : Bool} {k r : Int} (h : Q (vi (if b = true then k else -1)) []) (e : (if b = true then k else -1) = r) : Q (vi r) [] := e ▸ h
theorem ref08_kind (op : Int) (l : List Int) (Q : PV → Mem → Prop) (ho : 3 ≤ op ∧ op ≤ 18) (hl : arity op ≤ (l.length : Int)) (h : Q (vi (if fitsK op l = true then kindK op l else -1)) []) : Does Try.prog 160 [vi op, .sl (l.map eI)] [] 0 Q := by
  refine does_of mixed Try.func160 rfl (by kernel_rfl) no (slots [(1, [1, 5, 6, 7])]) ?_
  simp only [Try.f160]
  have ha : (op = 14 → 3 ≤ l.length) ∧ (¬ (op = 8 ∨ op = 11 ∨ op = 15 ∨ op = 14) → 2 ≤ l.length) := by
    unfold arity at hl; (repeat' split at hl) <;> omega
  repeat' (first
    | simp -implicitDefEqProofs only [go_sem, eI, Int.reduceToNat, Nat.reduceAdd, Nat.reduceEqDiff, Nat.reduceLT, Nat.reduceBEq, Nat.reduceLeDiff, Nat.reduceSub, Int.reduceLE, Int.reduceNeg, Int.reduceEq, Int.reduceToNat]
    | with_reducible refine know_of fun _ => ?_
    | with_reducible refine ifD1 (by omega) ?_
    | with_reducible refine ifD0 (by omega) ?_
    | with_reducible refine ifE1 (by omega) ?_
    | with_reducible refine ifE0 (by omega) ?_
    | with_reducible refine ifN1 (by omega) ?_
    | with_reducible refine ifN0 (by omega) ?_
    | with_reducible refine ifD_of (fun _ => ?_) (fun _ => ?_)
    | with_reducible refine ifE_of (fun _ => ?_) (fun _ => ?_)
    | with_reducible refine ifN_of (fun _ => ?_) (fun _ => ?_)
    | with_reducible refine Go.V.if1 (by assumption) ?_
    | with_reducible refine Go.V.if0 (by assumption) ?_
    | with_reducible refine if_of (fun _ => ?_) (fun _ => ?_)
    | with_reducible refine s_of (idx_get _ _ _ (by omega) (by omega)) ?_
    | with_reducible refine s_of (idx_get _ _ _ (by omega) (by simp only [List.length_set, List.length_append, List.length_take, List.length_drop, List.length_reverse, List.length_singleton]; omega)) ?_
    | with_reducible refine s_of (map_get _ _ _ (by omega)) ?_
    | with_reducible refine s_of (map_get _ _ _ (by simp only [List.length_set]; omega)) ?_
    | with_reducible refine s_of (if_neg (by omega)) ?_
    | with_reducible refine s_of (if_pos (by omega)) ?_
    | with_reducible refine need_of (by omega) ?_
    | with_reducible refine nil_of (fun _ => ?_) ?_
    | with_reducible refine alt_of ?_ ?_
    | (with_reducible apply join_of; intro _ _)
    | with_reducible assumption)
  all_goals first
    | (have hop : op = 14 := by omega
       subst hop
       rw [show fitsK 14 l = (l.getD 0 default == 0 && l.getD 1 default == l.getD 2 default) from rfl, show kindK 14 l = l.getD 1 default from rfl] at h
       refine kz h ?_
       simp only [*, BEq.rfl, Bool.and_true, if_true]
       done)
    | (have hop : op = 14 := by omega
       subst hop
       rw [show fitsK 14 l = (l.getD 0 default == 0 && l.getD 1 default == l.getD 2 default) from rfl, show kindK 14 l = l.getD 1 default from rfl] at h
       refine kz h (if_neg ?_)
       rw [Bool.and_eq_true]
       first | exact fun hh => absurd (beq_iff_eq.mp hh.2) (by assumption) | exact fun hh => absurd (beq_iff_eq.mp hh.1) (by assumption))
    | (have hop : op = 9 ∨ op = 10 ∨ op = 17 ∨ op = 18 := by omega
       rcases hop with hop | hop | hop | hop <;> subst hop <;> first
       | (refine kz h (if_pos ?_); exact beq_iff_eq.mpr (by assumption))
       | (refine kz h (if_neg ?_); exact fun hh => absurd (beq_iff_eq.mp hh) (by assumption))
       | contradiction)
    | skip
  · have h' : Q (vi (if (l.all fun x => x == 1) = true then 0 else -1)) [] := by
      have hop : op = 15 := by omega
      subst hop; exact h
    clear h
    refine loop_then (loop_ind (σ := Nat) (fun s => [(1, .sl (l.map eI)), (5, vi 1), (6, vi 0), (7, vi s)]) (fun s => []) (fun s => l.length - s) (fun s => s ≤ l.length ∧ Q (vi (if ((l.drop s).all fun x => x == 1) = true then 0 else -1)) []) ?_ 0 ⟨Nat.zero_le _, h'⟩)
    rintro X i ⟨hi, hQ⟩ ih
    try dsimp only at ih ⊢
    repeat' (first
      | simp -implicitDefEqProofs only [go_sem, eI, Int.toNat_natCast, Nat.reduceAdd, Nat.reduceEqDiff, Nat.reduceLT, Nat.reduceBEq, Nat.reduceLeDiff, Nat.reduceSub, Int.reduceLE, Int.reduceNeg, Int.reduceEq, Int.reduceToNat]
      | with_reducible refine know_of fun _ => ?_
      | with_reducible refine ifD1 (by omega) ?_
      | with_reducible refine ifD0 (by omega) ?_
      | with_reducible refine ifE1 (by omega) ?_
      | with_reducible refine ifE0 (by omega) ?_
      | with_reducible refine ifN1 (by omega) ?_
      | with_reducible refine ifN0 (by omega) ?_
      | with_reducible refine ifD_of (fun _ => ?_) (fun _ => ?_)
      | with_reducible refine ifE_of (fun _ => ?_) (fun _ => ?_)
      | with_reducible refine ifN_of (fun _ => ?_) (fun _ => ?_)
      | with_reducible refine Go.V.if1 (by assumption) ?_
      | with_reducible refine Go.V.if0 (by assumption) ?_
      | with_reducible refine if_of (fun _ => ?_) (fun _ => ?_)
      | with_reducible refine s_of (idx_get _ _ _ (by omega) (by omega)) ?_
      | with_reducible refine s_of (idx_get _ _ _ (by omega) (by simp only [List.length_set, List.length_append, List.length_take, List.length_drop, List.length_reverse, List.length_singleton]; omega)) ?_
      | with_reducible refine s_of (map_get _ _ _ (by omega)) ?_
      | with_reducible refine s_of (map_get _ _ _ (by simp only [List.length_set]; omega)) ?_
      | with_reducible refine s_of (if_neg (by omega)) ?_
      | with_reducible refine s_of (if_pos (by omega)) ?_
      | with_reducible refine need_of (by omega) ?_
      | with_reducible refine nil_of (fun _ => ?_) ?_
      | with_reducible refine alt_of ?_ ?_
      | (with_reducible apply join_of; intro _ _)
      | with_reducible assumption)
    all_goals first
      | (rw [drop_getD l i (by omega), List.all_cons, show (l.getD i default == 1) = true from beq_iff_eq.mpr (by assumption), Bool.true_and] at hQ
         rw [wnat i (by omega)]; exact ih (i + 1) (by omega) ⟨by omega, hQ⟩)
      | (rw [drop_getD l i (by omega), List.all_cons, show (l.getD i default == 1) = false from beq_false_of_ne (by assumption), Bool.false_and] at hQ
         exact hQ)
      | (rw [List.drop_eq_nil_of_le (by omega)] at hQ; exact hQ)
  · have h' : Q (vi (if (l.all fun x => x == 1) = true then 1 else -1)) [] := by
      have hop : op = 16 := by omega
      subst hop; exact h
    clear h
    refine loop_then (loop_ind (σ := Nat) (fun s => [(1, .sl (l.map eI)), (5, vi 1), (6, vi 1), (7, vi s)]) (fun s => []) (fun s => l.length - s) (fun s => s ≤ l.length ∧ Q (vi (if ((l.drop s).all fun x => x == 1) = true then 1 else -1)) []) ?_ 0 ⟨Nat.zero_le _, h'⟩)
    rintro X i ⟨hi, hQ⟩ ih
    try dsimp only at ih ⊢
    repeat' (first
      | simp -implicitDefEqProofs only [go_sem, eI, Int.toNat_natCast, Nat.reduceAdd, Nat.reduceEqDiff, Nat.reduceLT, Nat.reduceBEq, Nat.reduceLeDiff, Nat.reduceSub, Int.reduceLE, Int.reduceNeg, Int.reduceEq, Int.reduceToNat]
      | with_reducible refine know_of fun _ => ?_
      | with_reducible refine ifD1 (by omega) ?_
      | with_reducible refine ifD0 (by omega) ?_
      | with_reducible refine ifE1 (by omega) ?_
      | with_reducible refine ifE0 (by omega) ?_
      | with_reducible refine ifN1 (by omega) ?_
      | with_reducible refine ifN0 (by omega) ?_
      | with_reducible refine ifD_of (fun _ => ?_) (fun _ => ?_)
      | with_reducible refine ifE_of (fun _ => ?_) (fun _ => ?_)
      | with_reducible refine ifN_of (fun _ => ?_) (fun _ => ?_)
      | with_reducible refine Go.V.if1 (by assumption) ?_
      | with_reducible refine Go.V.if0 (by assumption) ?_
      | with_reducible refine if_of (fun _ => ?_) (fun _ => ?_)
      | with_reducible refine s_of (idx_get _ _ _ (by omega) (by omega)) ?_
      | with_reducible refine s_of (idx_get _ _ _ (by omega) (by simp only [List.length_set, List.length_append, List.length_take, List.length_drop, List.length_reverse, List.length_singleton]; omega)) ?_
      | with_reducible refine s_of (map_get _ _ _ (by omega)) ?_
      | with_reducible refine s_of (map_get _ _ _ (by simp only [List.length_set]; omega)) ?_
      | with_reducible refine s_of (if_neg (by omega)) ?_
      | with_reducible refine s_of (if_pos (by omega)) ?_
      | with_reducible refine need_of (by omega) ?_
      | with_reducible refine nil_of (fun _ => ?_) ?_
      | with_reducible refine alt_of ?_ ?_
      | (with_reducible apply join_of; intro _ _)
      | with_reducible assumption)
    all_goals first
      | (rw [drop_getD l i (by omega), List.all_cons, show (l.getD i default == 1) = true from beq_iff_eq.mpr (by assumption), Bool.true_and] at hQ
         rw [wnat i (by omega)]; exact ih (i + 1) (by omega) ⟨by omega, hQ⟩)
      | (rw [drop_getD l i (by omega), List.all_cons, show (l.getD i default == 1) = false from beq_false_of_ne (by assumption), Bool.false_and] at hQ
         exact hQ)
      | (rw [List.drop_eq_nil_of_le (by omega)] at hQ; exact hQ)
  · have h' : Q (vi (if (l.all fun x => x == 0) = true then 0 else -1)) [] := by
      have hop : op = 3 ∨ op = 4 ∨ op = 5 ∨ op = 6 ∨ op = 7 ∨ op = 8 ∨ op = 11 ∨ op = 12 ∨ op = 13 := by omega
      rcases hop with hop | hop | hop | hop | hop | hop | hop | hop | hop <;> subst hop <;> exact h
    clear h
    refine loop_then (loop_ind (σ := Nat) (fun s => [(1, .sl (l.map eI)), (5, vi 0), (6, vi 0), (7, vi s)]) (fun s => []) (fun s => l.length - s) (fun s => s ≤ l.length ∧ Q (vi (if ((l.drop s).all fun x => x == 0) = true then 0 else -1)) []) ?_ 0 ⟨Nat.zero_le _, h'⟩)
    rintro X i ⟨hi, hQ⟩ ih
    try dsimp only at ih ⊢
    repeat' (first
      | simp -implicitDefEqProofs only [go_sem, eI, Int.toNat_natCast, Nat.reduceAdd, Nat.reduceEqDiff, Nat.reduceLT, Nat.reduceBEq, Nat.reduceLeDiff, Nat.reduceSub, Int.reduceLE, Int.reduceNeg, Int.reduceEq, Int.reduceToNat]
      | with_reducible refine know_of fun _ => ?_
      | with_reducible refine ifD1 (by omega) ?_
      | with_reducible refine ifD0 (by omega) ?_
      | with_reducible refine ifE1 (by omega) ?_
      | with_reducible refine ifE0 (by omega) ?_
      | with_reducible refine ifN1 (by omega) ?_
      | with_reducible refine ifN0 (by omega) ?_
      | with_reducible refine ifD_of (fun _ => ?_) (fun _ => ?_)
      | with_reducible refine ifE_of (fun _ => ?_) (fun _ => ?_)
      | with_reducible refine ifN_of (fun _ => ?_) (fun _ => ?_)
      | with_reducible refine Go.V.if1 (by assumption) ?_
      | with_reducible refine Go.V.if0 (by assumption) ?_
      | with_reducible refine if_of (fun _ => ?_) (fun _ => ?_)
      | with_reducible refine s_of (idx_get _ _ _ (by omega) (by omega)) ?_
      | with_reducible refine s_of (idx_get _ _ _ (by omega) (by simp only [List.length_set, List.length_append, List.length_take, List.length_drop, List.length_reverse, List.length_singleton]; omega)) ?_
      | with_reducible refine s_of (map_get _ _ _ (by omega)) ?_
      | with_reducible refine s_of (map_get _ _ _ (by simp only [List.length_set]; omega)) ?_
      | with_reducible refine s_of (if_neg (by omega)) ?_
      | with_reducible refine s_of (if_pos (by omega)) ?_
      | with_reducible refine need_of (by omega) ?_
      | with_reducible refine nil_of (fun _ => ?_) ?_
      | with_reducible refine alt_of ?_ ?_
      | (with_reducible apply join_of; intro _ _)
      | with_reducible assumption)
    all_goals first
      | (rw [drop_getD l i (by omega), List.all_cons, show (l.getD i default == 0) = true from beq_iff_eq.mpr (by assumption), Bool.true_and] at hQ
         rw [wnat i (by omega)]; exact ih (i + 1) (by omega) ⟨by omega, hQ⟩)
      | (rw [drop_getD l i (by omega), List.all_cons, show (l.getD i default == 0) = false from beq_false_of_ne (by assumption), Bool.false_and] at hQ
         exact hQ)
      | (rw [List.drop_eq_nil_of_le (by omega)] at hQ; exact hQ)
end Go.V
