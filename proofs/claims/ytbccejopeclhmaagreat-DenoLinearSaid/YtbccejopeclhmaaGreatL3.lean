import Derived.Test.YtbccejopeclhmaaGreatL2b
namespace Go.V
open Go Go.RowKit Go.Proofs
set_option maxRecDepth 100000
set_option maxHeartbeats 4000000
set_option linter.unusedVariables false
set_option linter.unusedSimpArgs false
def pairV (n : Int × Int) : Val × Int := (numV n.1, n.2)
/-- A step of two values. -/
def twoV (op : Int) (a b : Val) : Val × Int :=
  if op = 3 then pairV (over (a.int + b.int)) else if op = 4 then pairV (over (a.int - b.int)) else if op = 5 then pairV (over (a.int * b.int))
  else if op = 6 then pairV (divI a.int b.int) else if op = 7 then pairV (modI a.int b.int)
  else if op = 9 then (flagV (cmpV a b == 0), 0) else if op = 10 then (flagV (decide (cmpV a b < 0)), 0)
  else if op = 12 then (flagV ((a.int != 0) && (b.int != 0)), 0) else if op = 13 then (flagV ((a.int != 0) || (b.int != 0)), 0)
  else if op = 16 then (if a.str.size + b.str.size > 4096 then (numV 0, 2) else (⟨1, 0, a.str ++ b.str⟩, 0))
  else if op = 17 then (if cmpV a b ≤ 0 then a else b, 0) else (if cmpV a b < 0 then b else a, 0)
def isTwo (op : Int) : Prop := 3 ≤ op ∧ op ≤ 7 ∨ 9 ≤ op ∧ op ≤ 10 ∨ 12 ≤ op ∧ op ≤ 13 ∨ 16 ≤ op ∧ op ≤ 18
theorem cmpI_r (a b : Int) : -1 ≤ cmpI a b ∧ cmpI a b ≤ 1 := by unfold cmpI; (repeat' split) <;> decide
theorem cmpS_r (a b : ByteArray) : -1 ≤ cmpS a b ∧ cmpS a b ≤ 1 := by unfold cmpS; (repeat' split) <;> decide
theorem cmpV_r (a b : Val) : -1 ≤ cmpV a b ∧ cmpV a b ≤ 1 := by
  unfold cmpV; repeat' split
  all_goals first | exact cmpI_r _ _ | exact cmpS_r _ _ | decide
theorem tdiv_over {a b : Int} (ha : -9223372036854775808 ≤ a ∧ a ≤ 9223372036854775807) (h0 : b ≠ 0) (h1 : b ≠ -1) : over (a.tdiv b) = (a.tdiv b, 0) := by
  unfold over; rw [if_pos (quotient_in ha h0 h1)]
theorem tdiv_neg1 (a : Int) : a.tdiv (-1) = 0 - a := by rw [Int.tdiv_neg, Int.tdiv_one]; omega
theorem expr_div (a b : Int) (Q : PV → Mem → Prop)  (h : Q (.tup [vi (divI a b).1, vi (divI a b).2]) []) : Does Tryz.prog 237 [vi a, vi b] [] 0 Q := by
  refine does_of mixed Tryz.func237 rfl (by kernel_rfl) no (slots []) ?_
  simp only [Tryz.f237]
  repeat' (first
    | simp -implicitDefEqProofs only [go_sem, Nat.reduceAdd, Nat.reduceEqDiff, Nat.reduceLT, Nat.reduceBEq, Nat.reduceLeDiff, Nat.reduceSub, Int.reduceLE, Int.reduceNeg, Int.reduceEq, Int.reduceToNat]
    | with_reducible refine know_of fun _ => ?_
    | (with_reducible refine does_then (weigh_Neg _ _ ?_))
    | with_reducible refine ifD1 (by omega) ?_
    | with_reducible refine ifD0 (by omega) ?_
    | with_reducible refine ifE1 (by omega) ?_
    | with_reducible refine ifE0 (by omega) ?_
    | with_reducible refine ifN1 (by omega) ?_
    | with_reducible refine ifN0 (by omega) ?_
    | with_reducible refine ifD_of (fun _ => ?_) (fun _ => ?_)
    | with_reducible refine ifE_of (fun _ => ?_) (fun _ => ?_)
    | with_reducible refine ifN_of (fun _ => ?_) (fun _ => ?_)
    | with_reducible refine Go.V.if1 (by assumption) ?_
    | with_reducible refine Go.V.if0 (by assumption) ?_
    | with_reducible refine if_of (fun _ => ?_) (fun _ => ?_)
    | with_reducible refine s_of (idx_get _ _ _ (by omega) (by omega)) ?_
    | with_reducible refine s_of (idx_get _ _ _ (by omega) (by simp only [List.length_set, List.length_append, List.length_take, List.length_drop, List.length_reverse, List.length_singleton]; omega)) ?_
    | with_reducible refine s_of (map_get _ _ _ (by omega)) ?_
    | with_reducible refine s_of (map_get _ _ _ (by simp only [List.length_set]; omega)) ?_
    | with_reducible refine s_of (if_neg (by omega)) ?_
    | with_reducible refine s_of (if_pos (by omega)) ?_
    | with_reducible refine need_of (by omega) ?_
    | with_reducible refine nil_of (fun _ => ?_) ?_
    | with_reducible refine alt_of ?_ ?_
    | (with_reducible apply join_of; intro _ _)
    | with_reducible assumption)
  all_goals (unfold divI at h; first
    | (rw [if_pos (by assumption)] at h; exact h)
    | (rw [if_neg (by omega)] at h; first
      | (rw [tdiv_over (by omega) (by assumption) (by assumption)] at h; rw [w64_of _ (quotient_in (by omega) (by assumption) (by assumption))]; exact h)
      | (rw [show b = -1 by assumption, tdiv_neg1] at h; exact h)))
theorem over_1 (n : Int) : (over n).2 = 0 ∨ (over n).2 = 60 := by unfold over; split <;> simp
theorem over_0 {n : Int} (h : (over n).2 = 0) : (over n).1 = n ∧ -9223372036854775808 ≤ n ∧ n ≤ 9223372036854775807 := by
  unfold over at *; split at h
  · rename_i hn; rw [if_pos hn]; exact ⟨rfl, hn⟩
  · simp at h
theorem tmod_in {a b : Int} (ha : -9223372036854775808 ≤ a ∧ a ≤ 9223372036854775807) : -9223372036854775808 ≤ a.tmod b ∧ a.tmod b ≤ 9223372036854775807 := by
  have hr := Int.natAbs_tmod a b
  have h2 : a.natAbs % b.natAbs ≤ a.natAbs := Nat.mod_le _ _
  have h3 : a.tmod b ≠ 9223372036854775808 := by
    intro h
    have := Int.tmod_def a b
    have hm := Int.mul_tdiv_add_tmod a b
    rcases Int.le_total 0 a with h0 | h0
    · omega
    · have h5 : 0 ≤ (-a).tmod b := Int.tmod_nonneg b (by omega)
      rw [Int.neg_tmod] at h5
      omega
  generalize a.tmod b = t at *
  omega
theorem mod_eq {a b : Int} (ha : -9223372036854775808 ≤ a ∧ a ≤ 9223372036854775807) (h : (over (a.tdiv b)).2 = 0) : w64 (a - w64 ((over (a.tdiv b)).1 * b)) = a.tmod b := by
  have h1 := over_0 h
  rw [h1.1]
  have hm := Int.mul_tdiv_add_tmod a b
  have ht := tmod_in (b := b) ha
  rw [Int.mul_comm b] at hm
  generalize a.tdiv b * b = p at *
  generalize a.tmod b = t at *
  rw [w64_eq, w64_eq]
  omega
theorem mod_eq2 {a b : Int} (ha : -9223372036854775808 ≤ a ∧ a ≤ 9223372036854775807) (h : (over (a.tdiv b)).2 = 0) : w64 (a - w64 (b * (over (a.tdiv b)).1)) = a.tmod b := by
  rw [Int.mul_comm b]; exact mod_eq ha h
theorem divI_0 {a b : Int} (h : b ≠ 0) : divI a b = over (a.tdiv b) := if_neg h
theorem tdiv_fit {a b : Int} (ha : -9223372036854775808 ≤ a ∧ a ≤ 9223372036854775807) (h0 : b ≠ 0) (h1 : a = -9223372036854775808 → b ≠ -1) : -9223372036854775808 ≤ a.tdiv b ∧ a.tdiv b ≤ 9223372036854775807 := by
  by_cases hb : b = -1
  · subst hb; rw [tdiv_neg1]; omega
  · exact quotient_in ha h0 hb
theorem modI_e {a b : Int} (h : (divI a b).2 ≠ 0) : modI a b = (0, (divI a b).2) := by
  by_cases hb : b = 0
  · simp [divI, hb] at h
  · rw [divI_0 hb] at *; unfold modI; rw [if_neg hb, if_neg h]; rcases over_1 (a.tdiv b) with h1 | h1 <;> simp_all
theorem modI_0 {a b : Int} (h : b = 0) (h2 : (divI a b).2 = 0) : modI a b = (0, (divI a b).2) := by rw [h2, modI, if_pos h]
theorem modI_1 {a b : Int} (h : b ≠ 0) (h2 : (divI a b).2 = 0) (ha : -9223372036854775808 ≤ a ∧ a ≤ 9223372036854775807) : modI a b = (w64 (a - w64 ((divI a b).1 * b)), 0) ∧ modI a b = (w64 (a - w64 (b * (divI a b).1)), 0) := by
  rw [divI_0 h] at *
  rw [mod_eq ha h2, mod_eq2 ha h2, modI, if_neg h, if_pos h2]
  exact ⟨rfl, rfl⟩
theorem expr_mod (a b : Int) (Q : PV → Mem → Prop)  (h : Q (.tup [vi (modI a b).1, vi (modI a b).2]) []) : Does Tryz.prog 238 [vi a, vi b] [] 0 Q := by
  refine does_of mixed Tryz.func238 rfl (by kernel_rfl) no (slots []) ?_
  simp only [Tryz.f238]
  repeat' (first
    | simp -implicitDefEqProofs only [go_sem, Nat.reduceAdd, Nat.reduceEqDiff, Nat.reduceLT, Nat.reduceBEq, Nat.reduceLeDiff, Nat.reduceSub, Int.reduceLE, Int.reduceNeg, Int.reduceEq, Int.reduceToNat]
    | with_reducible refine know_of fun _ => ?_
    | (with_reducible refine does_then (expr_div _ _ _ ?_))
    | with_reducible refine ifD1 (by omega) ?_
    | with_reducible refine ifD0 (by omega) ?_
    | with_reducible refine ifE1 (by omega) ?_
    | with_reducible refine ifE0 (by omega) ?_
    | with_reducible refine ifN1 (by omega) ?_
    | with_reducible refine ifN0 (by omega) ?_
    | with_reducible refine ifD_of (fun _ => ?_) (fun _ => ?_)
    | with_reducible refine ifE_of (fun _ => ?_) (fun _ => ?_)
    | with_reducible refine ifN_of (fun _ => ?_) (fun _ => ?_)
    | with_reducible refine Go.V.if1 (by assumption) ?_
    | with_reducible refine Go.V.if0 (by assumption) ?_
    | with_reducible refine if_of (fun _ => ?_) (fun _ => ?_)
    | with_reducible refine s_of (idx_get _ _ _ (by omega) (by omega)) ?_
    | with_reducible refine s_of (idx_get _ _ _ (by omega) (by simp only [List.length_set, List.length_append, List.length_take, List.length_drop, List.length_reverse, List.length_singleton]; omega)) ?_
    | with_reducible refine s_of (map_get _ _ _ (by omega)) ?_
    | with_reducible refine s_of (map_get _ _ _ (by simp only [List.length_set]; omega)) ?_
    | with_reducible refine s_of (if_neg (by omega)) ?_
    | with_reducible refine s_of (if_pos (by omega)) ?_
    | with_reducible refine need_of (by omega) ?_
    | with_reducible refine nil_of (fun _ => ?_) ?_
    | with_reducible refine alt_of ?_ ?_
    | (with_reducible apply join_of; intro _ _)
    | with_reducible assumption)
  all_goals first | (rw [modI_e (by assumption)] at h; exact h) | (rw [modI_0 (by assumption) (by assumption)] at h; exact h) | (rw [(modI_1 (by assumption) (by assumption) (by omega)).1] at h; exact h)
theorem ref08_quotient (a b : Int) (Q : PV → Mem → Prop)  (h : Q (.tup [vi (divI a b).1, vi (divI a b).2]) []) : Does Tryz.prog 239 [vi a, vi b] [] 0 Q := by
  refine does_of mixed Tryz.func239 rfl (by kernel_rfl) no (slots []) ?_
  simp only [Tryz.f239]
  repeat' (first
    | simp -implicitDefEqProofs only [go_sem, Nat.reduceAdd, Nat.reduceEqDiff, Nat.reduceLT, Nat.reduceBEq, Nat.reduceLeDiff, Nat.reduceSub, Int.reduceLE, Int.reduceNeg, Int.reduceEq, Int.reduceToNat]
    | with_reducible refine know_of fun _ => ?_
    | with_reducible refine ifD1 (by omega) ?_
    | with_reducible refine ifD0 (by omega) ?_
    | with_reducible refine ifE1 (by omega) ?_
    | with_reducible refine ifE0 (by omega) ?_
    | with_reducible refine ifN1 (by omega) ?_
    | with_reducible refine ifN0 (by omega) ?_
    | with_reducible refine ifD_of (fun _ => ?_) (fun _ => ?_)
    | with_reducible refine ifE_of (fun _ => ?_) (fun _ => ?_)
    | with_reducible refine ifN_of (fun _ => ?_) (fun _ => ?_)
    | with_reducible refine Go.V.if1 (by assumption) ?_
    | with_reducible refine Go.V.if0 (by assumption) ?_
    | with_reducible refine if_of (fun _ => ?_) (fun _ => ?_)
    | with_reducible refine s_of (idx_get _ _ _ (by omega) (by omega)) ?_
    | with_reducible refine s_of (idx_get _ _ _ (by omega) (by simp only [List.length_set, List.length_append, List.length_take, List.length_drop, List.length_reverse, List.length_singleton]; omega)) ?_
    | with_reducible refine s_of (map_get _ _ _ (by omega)) ?_
    | with_reducible refine s_of (map_get _ _ _ (by simp only [List.length_set]; omega)) ?_
    | with_reducible refine s_of (if_neg (by omega)) ?_
    | with_reducible refine s_of (if_pos (by omega)) ?_
    | with_reducible refine need_of (by omega) ?_
    | with_reducible refine nil_of (fun _ => ?_) ?_
    | with_reducible refine alt_of ?_ ?_
    | (with_reducible apply join_of; intro _ _)
    | with_reducible assumption)
  all_goals (unfold divI at h; first
    | (rw [if_pos (by assumption)] at h; exact h)
    | (rw [if_neg (by assumption)] at h; first
      | (have ht := tdiv_fit (a := a) (b := b) (by omega) (by omega) (by omega)
         rw [over, if_pos ht] at h; rw [w64_of _ ht]; exact h)
      | (rw [show b = -1 by assumption, show a = -9223372036854775808 by assumption] at h; exact h)))
theorem qv {Q : PV → Mem → Prop} {r : Val × Int} {m : Mem} {k i e : Int} {s : ByteArray} (h : Q (.tup [.agg [vi r.1.kind, vi r.1.int, vs r.1.str], vi r.2]) m) (e1 : r.1.kind = k) (e2 : r.1.int = i) (e3 : r.1.str = s) (e4 : r.2 = e) : Q (.tup [.agg [vi k, vi i, vs s], vi e]) m := by
  subst e1 e2 e3 e4; exact h
theorem fl1 {a b : Int} (h : a ≠ 0) : ((a != 0) && (b != 0)) = (b != 0) := by simp [h]
theorem fl2 {a b : Int} (h : a = 0) : ((a != 0) && (b != 0)) = false := by simp [h]
theorem fl3 {a b : Int} (h : a ≠ 0) : ((a != 0) || (b != 0)) = true := by simp [h]
theorem fl4 {a b : Int} (h : a = 0) : ((a != 0) || (b != 0)) = (b != 0) := by simp [h]
theorem two3 (a b : Val) : twoV 3 a b = pairV (over (a.int + b.int)) := rfl
theorem two4 (a b : Val) : twoV 4 a b = pairV (over (a.int - b.int)) := rfl
theorem two5 (a b : Val) : twoV 5 a b = pairV (over (a.int * b.int)) := rfl
theorem two6 (a b : Val) : twoV 6 a b = pairV (divI a.int b.int) := rfl
theorem two7 (a b : Val) : twoV 7 a b = pairV (modI a.int b.int) := rfl
theorem two9 (a b : Val) : twoV 9 a b = (flagV (cmpV a b == 0), 0) := rfl
theorem two10 (a b : Val) : twoV 10 a b = (flagV (decide (cmpV a b < 0)), 0) := rfl
theorem two12 (a b : Val) : twoV 12 a b = (flagV ((a.int != 0) && (b.int != 0)), 0) := rfl
theorem two13 (a b : Val) : twoV 13 a b = (flagV ((a.int != 0) || (b.int != 0)), 0) := rfl
theorem two16 (a b : Val) : twoV 16 a b = if a.str.size + b.str.size > 4096 then (numV 0, 2) else (⟨1, 0, a.str ++ b.str⟩, 0) := rfl
theorem two17 (a b : Val) : twoV 17 a b = (if cmpV a b ≤ 0 then a else b, 0) := rfl
theorem two18 (a b : Val) : twoV 18 a b = (if cmpV a b < 0 then b else a, 0) := rfl
theorem expr_reckon (op a0 : Int) (a1 : Int) (a2 : ByteArray) (b0 b1 : Int) (b2 : ByteArray) (Q : PV → Mem → Prop) (ho : 3 ≤ op ∧ op ≤ 7 ∨ 12 ≤ op ∧ op ≤ 13) (h : Q (.tup [.agg [vi ((twoV op ⟨a0, a1, a2⟩ ⟨b0, b1, b2⟩).1).kind, vi ((twoV op ⟨a0, a1, a2⟩ ⟨b0, b1, b2⟩).1).int, vs ((twoV op ⟨a0, a1, a2⟩ ⟨b0, b1, b2⟩).1).str], vi (twoV op ⟨a0, a1, a2⟩ ⟨b0, b1, b2⟩).2]) []) : Does Tryz.prog 223 [vi op, vi a1, vi b1] [] 0 Q := by
  refine does_of mixed Tryz.func223 rfl (by kernel_rfl) no (slots []) ?_
  simp only [Tryz.f223]
  repeat' (first
    | simp -implicitDefEqProofs only [go_sem, Nat.reduceAdd, Nat.reduceEqDiff, Nat.reduceLT, Nat.reduceBEq, Nat.reduceLeDiff, Nat.reduceSub, Int.reduceLE, Int.reduceNeg, Int.reduceEq, Int.reduceToNat]
    | with_reducible refine know_of fun _ => ?_
    | (with_reducible refine does_then (weigh_Add _ _ _ ?_))
    | (with_reducible refine does_then (weigh_Sub _ _ _ ?_))
    | (with_reducible refine does_then (weigh_Mul _ _ _ ?_))
    | (with_reducible refine does_then (expr_div _ _ _ ?_))
    | (with_reducible refine does_then (expr_mod _ _ _ ?_))
    | (with_reducible refine does_then (expr_number _ _ _ ?_))
    | (with_reducible refine does_then (expr_flag _ _ ?_))
    | with_reducible refine ifD1 (by omega) ?_
    | with_reducible refine ifD0 (by omega) ?_
    | with_reducible refine ifE1 (by omega) ?_
    | with_reducible refine ifE0 (by omega) ?_
    | with_reducible refine ifN1 (by omega) ?_
    | with_reducible refine ifN0 (by omega) ?_
    | with_reducible refine ifD_of (fun _ => ?_) (fun _ => ?_)
    | with_reducible refine ifE_of (fun _ => ?_) (fun _ => ?_)
    | with_reducible refine ifN_of (fun _ => ?_) (fun _ => ?_)
    | with_reducible refine Go.V.if1 (by assumption) ?_
    | with_reducible refine Go.V.if0 (by assumption) ?_
    | with_reducible refine if_of (fun _ => ?_) (fun _ => ?_)
    | with_reducible refine s_of (idx_get _ _ _ (by omega) (by omega)) ?_
    | with_reducible refine s_of (idx_get _ _ _ (by omega) (by simp only [List.length_set, List.length_append, List.length_take, List.length_drop, List.length_reverse, List.length_singleton]; omega)) ?_
    | with_reducible refine s_of (map_get _ _ _ (by omega)) ?_
    | with_reducible refine s_of (map_get _ _ _ (by simp only [List.length_set]; omega)) ?_
    | with_reducible refine s_of (if_neg (by omega)) ?_
    | with_reducible refine s_of (if_pos (by omega)) ?_
    | with_reducible refine need_of (by omega) ?_
    | with_reducible refine nil_of (fun _ => ?_) ?_
    | with_reducible refine alt_of ?_ ?_
    | (with_reducible apply join_of; intro _ _)
    | with_reducible assumption)
  all_goals first
    | (have hop : op = 3 := by omega
       subst hop
       rw [two3] at h
       exact h)
    | (have hop : op = 4 := by omega
       subst hop
       rw [two4] at h
       exact h)
    | (have hop : op = 5 := by omega
       subst hop
       rw [two5] at h
       exact h)
    | (have hop : op = 6 := by omega
       subst hop
       rw [two6] at h
       exact h)
    | (have hop : op = 7 := by omega
       subst hop
       rw [two7] at h
       exact h)
    | (have hop : op = 12 := by omega
       subst hop
       rw [two12] at h
       dsimp only at h
       first | rw [fl1 (by assumption)] at h | rw [fl2 (by assumption)] at h
       exact h)
    | (have hop : op = 13 := by omega
       subst hop
       rw [two13] at h
       dsimp only at h
       first | rw [fl3 (by assumption)] at h | rw [fl4 (by assumption)] at h
       exact h)
theorem expr_pair (op a0 : Int) (a1 : Int) (a2 : ByteArray) (b0 b1 : Int) (b2 : ByteArray) (Q : PV → Mem → Prop) (ho : isTwo op) (h : Q (.tup [.agg [vi ((twoV op ⟨a0, a1, a2⟩ ⟨b0, b1, b2⟩).1).kind, vi ((twoV op ⟨a0, a1, a2⟩ ⟨b0, b1, b2⟩).1).int, vs ((twoV op ⟨a0, a1, a2⟩ ⟨b0, b1, b2⟩).1).str], vi (twoV op ⟨a0, a1, a2⟩ ⟨b0, b1, b2⟩).2]) []) : Does Tryz.prog 199 [vi op, .agg [vi a0, vi a1, vs a2], .agg [vi b0, vi b1, vs b2]] [] 0 Q := by
  refine does_of mixed Tryz.func199 rfl (by kernel_rfl) no (slots []) ?_
  simp only [Tryz.f199]
  have hc := cmpV_r ⟨a0, a1, a2⟩ ⟨b0, b1, b2⟩
  unfold isTwo at ho
  repeat' (first
    | rw [w64_of _ (by omega)]
    | rw [w64_of ((a2.size : Int) + (b2.size : Int)) (by omega)]
    | simp -implicitDefEqProofs only [go_sem, Nat.reduceAdd, Nat.reduceEqDiff, Nat.reduceLT, Nat.reduceBEq, Nat.reduceLeDiff, Nat.reduceSub, Int.reduceLE, Int.reduceNeg, Int.reduceEq, Int.reduceToNat]
    | with_reducible refine know_of fun _ => ?_
    | (with_reducible refine does_then (row_Cmp _ _ _ _ _ _ _ ?_))
    | (with_reducible refine does_then (expr_flag _ _ ?_))
    | (with_reducible refine does_then (expr_reckon _ a0 _ a2 b0 _ b2 _ (by omega) ?_))
    | with_reducible refine ifD1 (by omega) ?_
    | with_reducible refine ifD0 (by omega) ?_
    | with_reducible refine ifE1 (by omega) ?_
    | with_reducible refine ifE0 (by omega) ?_
    | with_reducible refine ifN1 (by omega) ?_
    | with_reducible refine ifN0 (by omega) ?_
    | with_reducible refine ifD_of (fun _ => ?_) (fun _ => ?_)
    | with_reducible refine ifE_of (fun _ => ?_) (fun _ => ?_)
    | with_reducible refine ifN_of (fun _ => ?_) (fun _ => ?_)
    | with_reducible refine Go.V.if1 (by assumption) ?_
    | with_reducible refine Go.V.if0 (by assumption) ?_
    | with_reducible refine if_of (fun _ => ?_) (fun _ => ?_)
    | with_reducible refine s_of (idx_get _ _ _ (by omega) (by omega)) ?_
    | with_reducible refine s_of (idx_get _ _ _ (by omega) (by simp only [List.length_set, List.length_append, List.length_take, List.length_drop, List.length_reverse, List.length_singleton]; omega)) ?_
    | with_reducible refine s_of (map_get _ _ _ (by omega)) ?_
    | with_reducible refine s_of (map_get _ _ _ (by simp only [List.length_set]; omega)) ?_
    | with_reducible refine s_of (if_neg (by omega)) ?_
    | with_reducible refine s_of (if_pos (by omega)) ?_
    | with_reducible refine need_of (by omega) ?_
    | with_reducible refine nil_of (fun _ => ?_) ?_
    | with_reducible refine alt_of ?_ ?_
    | (with_reducible apply join_of; intro _ _)
    | with_reducible assumption)
  all_goals first | exact h | first
    | (have hop : op = 9 := by omega
       subst hop
       rw [two9] at h
       exact h)
    | (have hop : op = 10 := by omega
       subst hop
       rw [two10] at h
       exact h)
    | (have hop : op = 16 := by omega
       subst hop
       rw [two16] at h
       dsimp only at h
       split at h <;> first | exact h | (exfalso; omega))
    | (have hop : op = 17 := by omega
       subst hop
       rw [two17] at h
       dsimp only at h
       split at h <;> first | exact h | (exfalso; omega))
    | (have hop : op = 18 := by omega
       subst hop
       rw [two18] at h
       dsimp only at h
       split at h <;> first | exact h | (exfalso; omega))
end Go.V
