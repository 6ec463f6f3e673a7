import Derived.Test.YtheogjehgjbhaaaLB
namespace Go.V
open Go Go.RowKit Go.Proofs
set_option maxRecDepth 100000
set_option maxHeartbeats 4000000
set_option linter.unusedVariables false
set_option linter.unusedSimpArgs false
theorem dropI2 (n : Nat) (s : List Int) : List.drop n (List.take s.length (s.map eI)) = (s.drop n).map eI := by rw [← List.length_map (f := eI), List.take_length, List.map_drop]
theorem appI (A : List Int) (k : Int) : A.map eI ++ [[PV.val (.int .i64 k)]] = (A ++ [k]).map eI := by rw [List.map_append]; rfl
theorem takeI (n : Nat) (s : List Int) : List.take n (s.map eI) = (s.take n).map eI := by rw [List.map_take]
theorem arity_r (op : Int) : 0 ≤ arity op ∧ arity op ≤ 3 ∧ (op = 0 ∨ op = 1 ∨ op = 2 → arity op = 0) ∧ (¬ (op = 0 ∨ op = 1 ∨ op = 2) → 1 ≤ arity op) := by
  unfold arity; (repeat' split) <;> omega
theorem ref08_fits (op : Int) (l : List Int) (Q : PV → Mem → Prop) (ho : 3 ≤ op ∧ op ≤ 18) (hl : arity op ≤ (l.length : Int)) (h : Q (vb (fitsK op l)) []) : Does Try.prog 159 [vi op, .sl (l.map eI)] [] 0 Q := by
  refine does_of mixed Try.func159 rfl (by kernel_rfl) no (slots []) ?_
  simp only [Try.f159]
  have ha : (op = 14 → 3 ≤ l.length) ∧ (¬ (op = 8 ∨ op = 11 ∨ op = 15 ∨ op = 14) → 2 ≤ l.length) := by
    unfold arity at hl; (repeat' split at hl) <;> omega
  repeat' (first
    | simp -implicitDefEqProofs only [go_sem, eI, Int.reduceToNat, Nat.reduceAdd, Nat.reduceEqDiff, Nat.reduceLT, Nat.reduceBEq, Nat.reduceLeDiff, Nat.reduceSub, Int.reduceLE, Int.reduceNeg, Int.reduceEq, Int.reduceToNat]
    | with_reducible refine know_of fun _ => ?_
    | (with_reducible refine does_then (ref08_kind _ _ _ (by omega) (by omega) ?_))
    | with_reducible refine ifD1 (by omega) ?_
    | with_reducible refine ifD0 (by omega) ?_
    | with_reducible refine ifE1 (by omega) ?_
    | with_reducible refine ifE0 (by omega) ?_
    | with_reducible refine ifN1 (by omega) ?_
    | with_reducible refine ifN0 (by omega) ?_
    | with_reducible refine ifD_of (fun _ => ?_) (fun _ => ?_)
    | with_reducible refine ifE_of (fun _ => ?_) (fun _ => ?_)
    | with_reducible refine ifN_of (fun _ => ?_) (fun _ => ?_)
    | with_reducible refine Go.V.if1 (by assumption) ?_
    | with_reducible refine Go.V.if0 (by assumption) ?_
    | with_reducible refine if_of (fun _ => ?_) (fun _ => ?_)
    | with_reducible refine s_of (idx_get _ _ _ (by omega) (by omega)) ?_
    | with_reducible refine s_of (idx_get _ _ _ (by omega) (by simp only [List.length_set, List.length_append, List.length_take, List.length_drop, List.length_reverse, List.length_singleton]; omega)) ?_
    | with_reducible refine s_of (map_get _ _ _ (by omega)) ?_
    | with_reducible refine s_of (map_get _ _ _ (by simp only [List.length_set]; omega)) ?_
    | with_reducible refine s_of (if_neg (by omega)) ?_
    | with_reducible refine s_of (if_pos (by omega)) ?_
    | with_reducible refine need_of (by omega) ?_
    | with_reducible refine nil_of (fun _ => ?_) ?_
    | with_reducible refine alt_of ?_ ?_
    | (with_reducible apply join_of; intro _ _)
    | with_reducible assumption)
  all_goals first
    | (have hop : op = 14 := by omega
       subst hop
       rw [show fitsK 14 l = (l.getD 0 default == 0 && l.getD 1 default == l.getD 2 default) from rfl] at h
       first
       | (rw [show l.getD 0 default = 0 by assumption] at h; simpa only [BEq.rfl, Bool.true_and] using h)
       | (rw [show (l.getD 0 default == 0) = false from beq_false_of_ne (by assumption), Bool.false_and] at h; exact h))
    | (have hop : op = 9 ∨ op = 10 ∨ op = 17 ∨ op = 18 := by omega
       rcases hop with hop | hop | hop | hop <;> subst hop <;> first | exact h | contradiction)
    | (have hop : op = 3 ∨ op = 4 ∨ op = 5 ∨ op = 6 ∨ op = 7 ∨ op = 8 ∨ op = 11 ∨ op = 12 ∨ op = 13 ∨ op = 15 ∨ op = 16 := by omega
       have hk : 0 ≤ kindK op l := by rcases hop with hop | hop | hop | hop | hop | hop | hop | hop | hop | hop | hop <;> subst hop <;> first | exact Int.le_refl 0 | exact (show (0 : Int) ≤ 1 by decide)
       refine Eq.mp (congrArg (fun b => Q (vb b) []) ?_) h
       cases fitsK op l
       · rfl
       · simpa using hk)
theorem ref08_Type (l : List Term) (cols : List Int) (Q : PV → Mem → Prop)  (h : Q (.tup [vi (typeK l cols).1, vi (typeK l cols).2.1, vi (typeK l cols).2.2]) []) : Does Try.prog 133 [.sl (l.map eT), .sl (cols.map eI)] [] 0 Q := by
  refine does_of mixed Try.func133 rfl (by kernel_rfl) no (slots [(0, [0, 1, 7, 8])]) ?_
  simp only [Try.f133]
  repeat' (first
    | simp -implicitDefEqProofs only [go_sem, eT, eI, Nat.reduceAdd, Nat.reduceEqDiff, Nat.reduceLT, Nat.reduceBEq, Nat.reduceLeDiff, Nat.reduceSub, Int.reduceLE, Int.reduceNeg, Int.reduceEq, Int.reduceToNat]
    | with_reducible refine know_of fun _ => ?_
    | with_reducible refine ifD1 (by omega) ?_
    | with_reducible refine ifD0 (by omega) ?_
    | with_reducible refine ifE1 (by omega) ?_
    | with_reducible refine ifE0 (by omega) ?_
    | with_reducible refine ifN1 (by omega) ?_
    | with_reducible refine ifN0 (by omega) ?_
    | with_reducible refine ifD_of (fun _ => ?_) (fun _ => ?_)
    | with_reducible refine ifE_of (fun _ => ?_) (fun _ => ?_)
    | with_reducible refine ifN_of (fun _ => ?_) (fun _ => ?_)
    | with_reducible refine Go.V.if1 (by assumption) ?_
    | with_reducible refine Go.V.if0 (by assumption) ?_
    | with_reducible refine if_of (fun _ => ?_) (fun _ => ?_)
    | with_reducible refine s_of (idx_get _ _ _ (by omega) (by omega)) ?_
    | with_reducible refine s_of (idx_get _ _ _ (by omega) (by simp only [List.length_set, List.length_append, List.length_take, List.length_drop, List.length_reverse, List.length_singleton]; omega)) ?_
    | with_reducible refine s_of (map_get _ _ _ (by omega)) ?_
    | with_reducible refine s_of (map_get _ _ _ (by simp only [List.length_set]; omega)) ?_
    | with_reducible refine s_of (if_neg (by omega)) ?_
    | with_reducible refine s_of (if_pos (by omega)) ?_
    | with_reducible refine need_of (by omega) ?_
    | with_reducible refine nil_of (fun _ => ?_) ?_
    | with_reducible refine alt_of ?_ ?_
    | (with_reducible apply join_of; intro _ _)
    | with_reducible assumption)
  · unfold typeK at h; rw [if_pos (by omega)] at h; exact h
  · unfold typeK at h; rw [if_neg (by omega), if_pos (by omega)] at h; exact h
  unfold typeK at h
  rw [if_neg (by omega), if_neg (by omega)] at h
  refine loop_then (loop_ind (σ := Nat × List Int) (fun s => [(0, .sl (l.map eT)), (1, .sl (cols.map eI)), (7, .own 0), (8, vi s.1)]) (fun s => [.row 3 (s.2.map eI)]) (fun s => l.length - s.1) (fun s => s.2.length ≤ 16 ∧ s.1 ≤ l.length ∧ Q (.tup [vi (typK cols (l.drop s.1) s.1 s.2).1, vi (typK cols (l.drop s.1) s.1 s.2).2.1, vi (typK cols (l.drop s.1) s.1 s.2).2.2]) []) ?_ (0, []) ⟨Nat.zero_le _, Nat.zero_le _, h⟩)
  rintro X ⟨i, s⟩ ⟨hs, hi, hQ⟩ ih
  try dsimp only at ih ⊢
  dsimp only at hs hi hQ
  have keyE : i < l.length → ∀ e, (stepK cols (l.getD i default) s).2 = e → e ≠ 0 → Q (.tup [vi 0, vi e, vi i]) [] := fun hlt e he h0 => by
    rw [drop_getD l i hlt, typK, if_neg (by rw [he]; exact h0), he] at hQ; exact hQ
  have keyO : i < l.length → ∀ s', stepK cols (l.getD i default) s = (s', 0) → X [(0, .sl (l.map eT)), (1, .sl (cols.map eI)), (7, .own 0), (8, vi ((i + 1 : Nat) : Int))] [.row 3 (s'.map eI)] := fun hlt s' he => by
    rw [drop_getD l i hlt, typK, if_pos (by rw [he])] at hQ
    have hl := stepK_len hs (show (stepK cols (l.getD i default) s).2 = 0 by rw [he])
    rw [he] at hQ hl
    exact ih (i + 1, s') (by dsimp only; omega) ⟨hl, by dsimp only; omega, hQ⟩
  clear ih
  have har := arity_r (l.getD i default).op
  repeat' (first
    | rw [dropI]
    | rw [dropI2]
    | rw [takeI]
    | rw [w64_of ((s.length : Int) - arity (l.getD i default).op) (by omega)]
    | simp -implicitDefEqProofs only [go_sem, eT, eI, Int.toNat_natCast, Int.reduceToNat, List.length_take, Nat.reduceAdd, Nat.reduceEqDiff, Nat.reduceLT, Nat.reduceBEq, Nat.reduceLeDiff, Nat.reduceSub, Int.reduceLE, Int.reduceNeg, Int.reduceEq, Int.reduceToNat]
    | with_reducible refine know_of fun _ => ?_
    | (with_reducible refine does_then (ref08_takes _ _ ?_))
    | (with_reducible refine does_then (ref08_fits _ _ _ (by omega) (by rw [List.length_drop]; omega) ?_))
    | (with_reducible refine does_then (ref08_kind _ _ _ (by omega) (by rw [List.length_drop]; omega) ?_))
    | with_reducible refine ifD1 (by omega) ?_
    | with_reducible refine ifD0 (by omega) ?_
    | with_reducible refine ifE1 (by omega) ?_
    | with_reducible refine ifE0 (by omega) ?_
    | with_reducible refine ifN1 (by omega) ?_
    | with_reducible refine ifN0 (by omega) ?_
    | with_reducible refine ifD_of (fun _ => ?_) (fun _ => ?_)
    | with_reducible refine ifE_of (fun _ => ?_) (fun _ => ?_)
    | with_reducible refine ifN_of (fun _ => ?_) (fun _ => ?_)
    | with_reducible refine Go.V.if1 (by assumption) ?_
    | with_reducible refine Go.V.if0 (by assumption) ?_
    | with_reducible refine if_of (fun _ => ?_) (fun _ => ?_)
    | with_reducible refine s_of (idx_get _ _ _ (by omega) (by omega)) ?_
    | with_reducible refine s_of (idx_get _ _ _ (by omega) (by simp only [List.length_set, List.length_append, List.length_take, List.length_drop, List.length_reverse, List.length_singleton]; omega)) ?_
    | with_reducible refine s_of (map_get _ _ _ (by omega)) ?_
    | with_reducible refine s_of (map_get _ _ _ (by simp only [List.length_set]; omega)) ?_
    | with_reducible refine s_of (if_neg (by omega)) ?_
    | with_reducible refine s_of (if_pos (by omega)) ?_
    | with_reducible refine need_of (by omega) ?_
    | with_reducible refine nil_of (fun _ => ?_) ?_
    | with_reducible refine alt_of ?_ ?_
    | (with_reducible apply join_of; intro _ _)
    | with_reducible assumption)
  all_goals first
    | (refine keyE (by omega) _ ?_ ?_; (focus (unfold stepK pushK; (repeat' split) <;> first | rfl | (exfalso; omega) | (exfalso; simp_all; done))); decide)
    | (rw [wnat i (by omega), appI, List.take_of_length_le (by omega)]; refine keyO (by omega) _ ?_; focus (unfold stepK pushK; (repeat' split) <;> first | rfl | (exfalso; omega) | (exfalso; simp_all; done)))
    | (rw [wnat i (by omega), appI]; refine keyO (by omega) _ ?_; focus (unfold stepK pushK; (repeat' split) <;> first | rfl | (exfalso; omega) | (exfalso; simp_all; done)))
    | (have hil : i = l.length := by omega
       subst hil
       rw [List.drop_eq_nil_of_le (Nat.le_refl _), typK] at hQ
       first | (rw [if_pos (by omega)] at hQ; exact hQ) | (rw [if_neg (by omega)] at hQ; exact hQ))
end Go.V
