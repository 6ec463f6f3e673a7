import Derived.Test.YtbccejopeclhmaaGreatL8
namespace Go.V
open Go Go.RowKit Go.Proofs
set_option maxRecDepth 100000
set_option maxHeartbeats 4000000
set_option linter.unusedVariables false
set_option linter.unusedSimpArgs false
def typK (cols : List Int) : List Term → Nat → List Int → Int × Int × Int
  | [], i, s => if s.length = 1 then (s.getD 0 default, 0, i) else (0, 6, i)
  | t :: ts, i, s => if (stepK cols t s).2 = 0 then typK cols ts (i + 1) (stepK cols t s).1 else (0, (stepK cols t s).2, i)
def typeK (l : List Term) (cols : List Int) : Int × Int × Int := if l.length = 0 then (0, 1, 0) else if l.length > 64 then (0, 3, 0) else typK cols l 0 []
theorem stepK_len {cols : List Int} {t : Term} {s : List Int} (hs : s.length ≤ 16) (h : (stepK cols t s).2 = 0) : (stepK cols t s).1.length ≤ 16 := by
  unfold stepK pushK at *
  by_cases h0 : t.op = 0
  · rw [if_pos h0] at *
    split at h
    · simp at h
    · rename_i h3
      rw [if_neg h3] at *
      split at h
      · simp at h
      · rename_i h4
        rw [if_neg h4]; simp only [List.length_append, List.length_singleton]; omega
  by_cases h2 : t.op = 2
  · rw [if_neg h0, if_pos h2] at *
    split at h
    · simp at h
    · rename_i h3
      rw [if_neg h3] at *
      split at h
      · simp at h
      · rename_i h4
        rw [if_neg h4]; simp only [List.length_append, List.length_singleton]; omega
  by_cases h1 : t.op = 1
  · rw [if_neg h0, if_neg h2, if_pos h1] at *
    split at h
    · simp at h
    · rename_i h4
      rw [if_neg h4]; simp only [List.length_append, List.length_singleton]; omega
  have ha := arity_pos h0 h1 h2
  rw [if_neg h0, if_neg h2, if_neg h1] at *
  split at h
  · simp at h
  · rename_i h3
    rw [if_neg h3] at *
    split at h
    · simp at h
    · rename_i h4
      rw [if_neg h4] at *
      split at h
      · rename_i h5
        rw [if_pos h5]
        simp only [List.length_append, List.length_take, List.length_singleton]
        omega
      · simp at h
theorem expr_Type (l : List Term) (cols : List Int) (Q : PV → Mem → Prop)  (h : Q (.tup [vi (typeK l cols).1, vi (typeK l cols).2.1, vi (typeK l cols).2.2]) []) : Does Tryz.prog 152 [.sl (l.map eT), .sl (cols.map eI)] [] 0 Q := by
  refine does_of mixed Tryz.func152 rfl (by kernel_rfl) lentK (slots [(1, [0, 7, 22, 23, 24])]) ?_
  simp only [Tryz.f152]
  repeat' (first
    | simp -implicitDefEqProofs only [go_sem, eT, eI, Nat.reduceAdd, Nat.reduceEqDiff, Nat.reduceLT, Nat.reduceBEq, Nat.reduceLeDiff, Nat.reduceSub, Int.reduceLE, Int.reduceNeg, Int.reduceEq, Int.reduceToNat]
    | with_reducible refine know_of fun _ => ?_
    | with_reducible refine ifD1 (by omega) ?_
    | with_reducible refine ifD0 (by omega) ?_
    | with_reducible refine ifE1 (by omega) ?_
    | with_reducible refine ifE0 (by omega) ?_
    | with_reducible refine ifN1 (by omega) ?_
    | with_reducible refine ifN0 (by omega) ?_
    | with_reducible refine ifD_of (fun _ => ?_) (fun _ => ?_)
    | with_reducible refine ifE_of (fun _ => ?_) (fun _ => ?_)
    | with_reducible refine ifN_of (fun _ => ?_) (fun _ => ?_)
    | with_reducible refine Go.V.if1 (by assumption) ?_
    | with_reducible refine Go.V.if0 (by assumption) ?_
    | with_reducible refine if_of (fun _ => ?_) (fun _ => ?_)
    | with_reducible refine s_of (idx_get _ _ _ (by omega) (by omega)) ?_
    | with_reducible refine s_of (idx_get _ _ _ (by omega) (by simp only [List.length_set, List.length_append, List.length_take, List.length_drop, List.length_reverse, List.length_singleton]; omega)) ?_
    | with_reducible refine s_of (map_get _ _ _ (by omega)) ?_
    | with_reducible refine s_of (map_get _ _ _ (by simp only [List.length_set]; omega)) ?_
    | with_reducible refine s_of (if_neg (by omega)) ?_
    | with_reducible refine s_of (if_pos (by omega)) ?_
    | with_reducible refine need_of (by omega) ?_
    | with_reducible refine nil_of (fun _ => ?_) ?_
    | with_reducible refine alt_of ?_ ?_
    | (with_reducible apply join_of; intro _ _)
    | with_reducible assumption)
  · unfold typeK at h; rw [if_pos (by omega)] at h; exact h
  · unfold typeK at h; rw [if_neg (by omega), if_pos (by omega)] at h; exact h
  unfold typeK at h
  rw [if_neg (by omega), if_neg (by omega)] at h
  refine loop_then (loop_ind (σ := Bool × Nat × List Int) (fun s => [(0, .sl (l.map eT)), (7, .adr 0 0), (22, .sl (l.map eT)), (23, vi l.length), (24, vi s.2.1)]) (fun s => if s.1 then [.var [.sl (cols.map eI), .own 1], .row 3 (s.2.2.map eI)] else [.var [.sl (cols.map eI), .val (.slice none 0 0)]]) (fun s => l.length - s.2.1) (fun s => (s.1 = false → s.2.2 = []) ∧ s.2.2.length ≤ 16 ∧ s.2.1 ≤ l.length ∧ Q (.tup [vi (typK cols (l.drop s.2.1) s.2.1 s.2.2).1, vi (typK cols (l.drop s.2.1) s.2.1 s.2.2).2.1, vi (typK cols (l.drop s.2.1) s.2.1 s.2.2).2.2]) []) ?_ (false, 0, []) ⟨fun _ => rfl, Nat.zero_le _, Nat.zero_le _, h⟩)
  rintro X ⟨b, i, s⟩ ⟨hb, hs, hi, hQ⟩ ih
  try dsimp only at ih ⊢
  dsimp only at hb hs hi hQ
  cases b
  · obtain rfl := hb rfl
    repeat' (first
    | simp -implicitDefEqProofs only [go_sem, eT, eI, Int.toNat_natCast, Bool.false_eq_true, if_false, if_true, Nat.reduceAdd, Nat.reduceEqDiff, Nat.reduceLT, Nat.reduceBEq, Nat.reduceLeDiff, Nat.reduceSub, Int.reduceLE, Int.reduceNeg, Int.reduceEq, Int.reduceToNat]
    | with_reducible refine know_of fun _ => ?_
    | (with_reducible refine does_then (step0 _ _ _ _ _ (fun _ => ?_) (fun _ => ?_)))
    | with_reducible refine ifD1 (by omega) ?_
    | with_reducible refine ifD0 (by omega) ?_
    | with_reducible refine ifE1 (by omega) ?_
    | with_reducible refine ifE0 (by omega) ?_
    | with_reducible refine ifN1 (by omega) ?_
    | with_reducible refine ifN0 (by omega) ?_
    | with_reducible refine ifD_of (fun _ => ?_) (fun _ => ?_)
    | with_reducible refine ifE_of (fun _ => ?_) (fun _ => ?_)
    | with_reducible refine ifN_of (fun _ => ?_) (fun _ => ?_)
    | with_reducible refine Go.V.if1 (by assumption) ?_
    | with_reducible refine Go.V.if0 (by assumption) ?_
    | with_reducible refine if_of (fun _ => ?_) (fun _ => ?_)
    | with_reducible refine s_of (idx_get _ _ _ (by omega) (by omega)) ?_
    | with_reducible refine s_of (idx_get _ _ _ (by omega) (by simp only [List.length_set, List.length_append, List.length_take, List.length_drop, List.length_reverse, List.length_singleton]; omega)) ?_
    | with_reducible refine s_of (map_get _ _ _ (by omega)) ?_
    | with_reducible refine s_of (map_get _ _ _ (by simp only [List.length_set]; omega)) ?_
    | with_reducible refine s_of (if_neg (by omega)) ?_
    | with_reducible refine s_of (if_pos (by omega)) ?_
    | with_reducible refine need_of (by omega) ?_
    | with_reducible refine nil_of (fun _ => ?_) ?_
    | with_reducible refine alt_of ?_ ?_
    | (with_reducible apply join_of; intro _ _)
    | with_reducible assumption)
    all_goals first
      | (rw [drop_getD l i (by omega), typK, if_neg (by assumption)] at hQ; exact hQ)
      | (rw [drop_getD l i (by omega), typK, if_pos (by assumption)] at hQ; rw [wnat i (by omega)]; exact ih (true, i + 1, _) (by dsimp only; omega) ⟨by simp, stepK_len hs (by assumption), by dsimp only; omega, hQ⟩)
      | (have hil : i = l.length := by omega
         subst hil
         rw [List.drop_eq_nil_of_le (Nat.le_refl _), typK] at hQ
         first | (rw [if_pos (by omega)] at hQ; exact hQ) | (rw [if_neg (by omega)] at hQ; exact hQ) | exact hQ)
  · repeat' (first
    | simp -implicitDefEqProofs only [go_sem, eT, eI, Int.toNat_natCast, Int.reduceToNat, Bool.false_eq_true, if_false, if_true, Nat.reduceAdd, Nat.reduceEqDiff, Nat.reduceLT, Nat.reduceBEq, Nat.reduceLeDiff, Nat.reduceSub, Int.reduceLE, Int.reduceNeg, Int.reduceEq, Int.reduceToNat]
    | with_reducible refine know_of fun _ => ?_
    | (with_reducible refine does_then (step1 _ _ _ _ _ _ (by omega) (fun _ => ?_) (fun _ => ⟨?_, fun _ => ?_⟩)))
    | with_reducible refine ifD1 (by omega) ?_
    | with_reducible refine ifD0 (by omega) ?_
    | with_reducible refine ifE1 (by omega) ?_
    | with_reducible refine ifE0 (by omega) ?_
    | with_reducible refine ifN1 (by omega) ?_
    | with_reducible refine ifN0 (by omega) ?_
    | with_reducible refine ifD_of (fun _ => ?_) (fun _ => ?_)
    | with_reducible refine ifE_of (fun _ => ?_) (fun _ => ?_)
    | with_reducible refine ifN_of (fun _ => ?_) (fun _ => ?_)
    | with_reducible refine Go.V.if1 (by assumption) ?_
    | with_reducible refine Go.V.if0 (by assumption) ?_
    | with_reducible refine if_of (fun _ => ?_) (fun _ => ?_)
    | with_reducible refine s_of (idx_get _ _ _ (by omega) (by omega)) ?_
    | with_reducible refine s_of (idx_get _ _ _ (by omega) (by simp only [List.length_set, List.length_append, List.length_take, List.length_drop, List.length_reverse, List.length_singleton]; omega)) ?_
    | with_reducible refine s_of (map_get _ _ _ (by omega)) ?_
    | with_reducible refine s_of (map_get _ _ _ (by simp only [List.length_set]; omega)) ?_
    | with_reducible refine s_of (if_neg (by omega)) ?_
    | with_reducible refine s_of (if_pos (by omega)) ?_
    | with_reducible refine need_of (by omega) ?_
    | with_reducible refine nil_of (fun _ => ?_) ?_
    | with_reducible refine alt_of ?_ ?_
    | (with_reducible apply join_of; intro _ _)
    | with_reducible assumption)
    all_goals first
      | (rw [drop_getD l i (by omega), typK, if_neg (by assumption)] at hQ; exact hQ)
      | (rw [drop_getD l i (by omega), typK, if_pos (by assumption)] at hQ; rw [wnat i (by omega)]; exact ih (true, i + 1, _) (by dsimp only; omega) ⟨by simp, stepK_len hs (by assumption), by dsimp only; omega, hQ⟩)
      | (have hil : i = l.length := by omega
         subst hil
         rw [List.drop_eq_nil_of_le (Nat.le_refl _), typK] at hQ
         first | (rw [if_pos (by omega)] at hQ; exact hQ) | (rw [if_neg (by omega)] at hQ; exact hQ) | exact hQ)
theorem arity_r (op : Int) : 0 ≤ arity op ∧ arity op ≤ 3 ∧ (op = 0 ∨ op = 1 ∨ op = 2 → arity op = 0) ∧ (¬ (op = 0 ∨ op = 1 ∨ op = 2) → 1 ≤ arity op) := by
  unfold arity; (repeat' split) <;> omega
end Go.V
