import Derived.Test.YtbccejopeclhmaaGreatL4
namespace Go.V
open Go Go.RowKit Go.Proofs
set_option maxRecDepth 100000
set_option maxHeartbeats 4000000
set_option linter.unusedVariables false
set_option linter.unusedSimpArgs false
theorem isTwo_r {op : Int} (h : isTwo op) : 3 ≤ op ∧ op ≤ 7 ∨ 9 ≤ op ∧ op ≤ 10 ∨ 12 ≤ op ∧ op ≤ 13 ∨ 16 ≤ op ∧ op ≤ 18 := h
theorem mm17 {c : Int} {op : Int} (h : op = 17) (h1 : (decide (c ≤ 0) == (op == 17)) = true) : c ≤ 0 := by subst h; simpa using h1
theorem mm17' {c : Int} {op : Int} (h : op = 17) (h1 : (decide (c ≤ 0) == (op == 17)) = false) : ¬ c ≤ 0 := by subst h; simpa using h1
theorem mm18 {c : Int} {op : Int} (h : op = 18) (h1 : (decide (c ≤ 0) == (op == 17)) = true) : ¬ c ≤ 0 := by subst h; simpa using h1
theorem mm18' {c : Int} {op : Int} (h : op = 18) (h1 : (decide (c ≤ 0) == (op == 17)) = false) : c ≤ 0 := by subst h; simpa using h1
theorem modI_z {a b : Int} (h : b = 0) : modI a b = (0, (divI a b).2) := modI_0 h (by rw [h]; rfl)
theorem ref08_two (op a0 : Int) (a1 : Int) (a2 : ByteArray) (b0 b1 : Int) (b2 : ByteArray) (Q : PV → Mem → Prop) (ho : isTwo op) (h : Q (.tup [.agg [vi ((twoV op ⟨a0, a1, a2⟩ ⟨b0, b1, b2⟩).1).kind, vi ((twoV op ⟨a0, a1, a2⟩ ⟨b0, b1, b2⟩).1).int, vs ((twoV op ⟨a0, a1, a2⟩ ⟨b0, b1, b2⟩).1).str], vi (twoV op ⟨a0, a1, a2⟩ ⟨b0, b1, b2⟩).2]) []) : Does Tryz.prog 231 [vi op, .agg [vi a0, vi a1, vs a2], .agg [vi b0, vi b1, vs b2]] [] 0 Q := by
  refine does_of mixed Tryz.func231 rfl (by kernel_rfl) no (slots []) ?_
  simp only [Tryz.f231]
  have hc := cmpV_r ⟨a0, a1, a2⟩ ⟨b0, b1, b2⟩
  unfold isTwo at ho
  repeat' (first
    | rw [w64_of (4096 - (b2.size : Int)) (by omega)]
    | simp -implicitDefEqProofs only [go_sem, Nat.reduceAdd, Nat.reduceEqDiff, Nat.reduceLT, Nat.reduceBEq, Nat.reduceLeDiff, Nat.reduceSub, Int.reduceLE, Int.reduceNeg, Int.reduceEq, Int.reduceToNat]
    | with_reducible refine know_of fun _ => ?_
    | (with_reducible refine does_then (ref06_Add _ _ _ ?_))
    | (with_reducible refine does_then (ref06_Sub _ _ _ ?_))
    | (with_reducible refine does_then (ref06_Mul _ _ _ ?_))
    | (with_reducible refine does_then (ref08_quotient _ _ _ ?_))
    | (with_reducible refine does_then (ref08_whole _ _ _ ?_))
    | (with_reducible refine does_then (ref08_yes _ _ ?_))
    | (with_reducible refine does_then (ref03_Cmp _ _ _ _ _ _ _ ?_))
    | with_reducible refine ifD1 (by omega) ?_
    | with_reducible refine ifD0 (by omega) ?_
    | with_reducible refine ifE1 (by omega) ?_
    | with_reducible refine ifE0 (by omega) ?_
    | with_reducible refine ifN1 (by omega) ?_
    | with_reducible refine ifN0 (by omega) ?_
    | with_reducible refine ifD_of (fun _ => ?_) (fun _ => ?_)
    | with_reducible refine ifE_of (fun _ => ?_) (fun _ => ?_)
    | with_reducible refine ifN_of (fun _ => ?_) (fun _ => ?_)
    | with_reducible refine Go.V.if1 (by assumption) ?_
    | with_reducible refine Go.V.if0 (by assumption) ?_
    | with_reducible refine if_of (fun _ => ?_) (fun _ => ?_)
    | with_reducible refine s_of (idx_get _ _ _ (by omega) (by omega)) ?_
    | with_reducible refine s_of (idx_get _ _ _ (by omega) (by simp only [List.length_set, List.length_append, List.length_take, List.length_drop, List.length_reverse, List.length_singleton]; omega)) ?_
    | with_reducible refine s_of (map_get _ _ _ (by omega)) ?_
    | with_reducible refine s_of (map_get _ _ _ (by simp only [List.length_set]; omega)) ?_
    | with_reducible refine s_of (if_neg (by omega)) ?_
    | with_reducible refine s_of (if_pos (by omega)) ?_
    | with_reducible refine need_of (by omega) ?_
    | with_reducible refine nil_of (fun _ => ?_) ?_
    | with_reducible refine alt_of ?_ ?_
    | (with_reducible apply join_of; intro _ _)
    | with_reducible assumption)
  all_goals first
    | (have hop : op = 7 := by omega
       subst hop
       rw [two7] at h
       dsimp only at h
       first | (rw [modI_z (by assumption)] at h; exact h) | (rw [modI_e (by assumption)] at h; exact h) | (rw [(modI_1 (by assumption) (by assumption) (by omega)).2] at h; exact h))
    | (have hop : op = 17 ∨ op = 18 := by omega
       rcases hop with hop | hop
       · have hmm : cmpV ⟨a0, a1, a2⟩ ⟨b0, b1, b2⟩ ≤ 0 ∨ ¬ cmpV ⟨a0, a1, a2⟩ ⟨b0, b1, b2⟩ ≤ 0 ∧ True := by first | exact .inl (mm17 hop (by assumption)) | exact .inr ⟨mm17' hop (by assumption), trivial⟩
         subst hop
         rw [two17] at h
         dsimp only at h
         split at h <;> first | exact h | (exfalso; omega) | (exfalso; first | exact absurd (mm17 rfl (by assumption)) (by omega) | exact absurd (show cmpV ⟨a0, a1, a2⟩ ⟨b0, b1, b2⟩ ≤ 0 by omega) (mm17' rfl (by assumption)))
       · have hmm : ¬ cmpV ⟨a0, a1, a2⟩ ⟨b0, b1, b2⟩ ≤ 0 ∨ cmpV ⟨a0, a1, a2⟩ ⟨b0, b1, b2⟩ ≤ 0 ∧ True := by first | exact .inl (mm18 hop (by assumption)) | exact .inr ⟨mm18' hop (by assumption), trivial⟩
         subst hop
         rw [two18] at h
         dsimp only at h
         split at h <;> first | exact h | (exfalso; omega) | (exfalso; first | exact absurd (show cmpV ⟨a0, a1, a2⟩ ⟨b0, b1, b2⟩ ≤ 0 by omega) (mm18 rfl (by assumption)) | exact absurd (mm18' rfl (by assumption)) (by omega)))
    | (have hop : op = 3 := by omega
       subst hop
       rw [two3] at h
       exact h)
    | (have hop : op = 4 := by omega
       subst hop
       rw [two4] at h
       exact h)
    | (have hop : op = 5 := by omega
       subst hop
       rw [two5] at h
       exact h)
    | (have hop : op = 6 := by omega
       subst hop
       rw [two6] at h
       exact h)
    | (have hop : op = 9 := by omega
       subst hop
       rw [two9] at h
       exact h)
    | (have hop : op = 10 := by omega
       subst hop
       rw [two10] at h
       exact h)
    | (have hop : op = 12 := by omega
       subst hop
       rw [two12] at h
       dsimp only at h
       first | rw [fl1 (by assumption)] at h | rw [fl2 (by assumption)] at h
       exact h)
    | (have hop : op = 13 := by omega
       subst hop
       rw [two13] at h
       dsimp only at h
       first | rw [fl3 (by assumption)] at h | rw [fl4 (by assumption)] at h
       exact h)
    | (have hop : op = 16 := by omega
       subst hop
       rw [two16] at h
       dsimp only at h
       split at h <;> first | exact h | (exfalso; omega))
end Go.V
