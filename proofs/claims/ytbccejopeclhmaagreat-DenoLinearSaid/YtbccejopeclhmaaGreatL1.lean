import Derived.Test.YtbccejopeclhmaaGreatW
namespace Go.V
open Go Go.RowKit Go.Proofs
set_option maxRecDepth 100000
set_option maxHeartbeats 4000000
set_option linter.unusedVariables false
set_option linter.unusedSimpArgs false
/-- A number, or that it is too great. -/
def over (n : Int) : Int × Int := if -9223372036854775808 ≤ n ∧ n ≤ 9223372036854775807 then (n, 0) else (0, 60)
def isF (k : Int) : Bool := if 1 ≤ k ∧ k ≤ 5 ∨ k = 7 then true else false
def abs' (a : Int) : Int := if a < 0 then -a else a
theorem weigh_Sub (a b : Int) (Q : PV → Mem → Prop)  (h : Q (.tup [vi (over (a - b)).1, vi (over (a - b)).2]) []) : Does Tryz.prog 92 [vi a, vi b] [] 0 Q := by
  refine does_of mixed Tryz.func92 rfl (by kernel_rfl) no (slots []) ?_
  simp only [Tryz.f92]
  repeat' (first
    | rw [w64_of _ (by omega)]
    | simp -implicitDefEqProofs only [go_sem, Nat.reduceAdd, Nat.reduceEqDiff, Nat.reduceLT, Nat.reduceBEq, Nat.reduceLeDiff, Nat.reduceSub, Int.reduceLE, Int.reduceNeg, Int.reduceEq, Int.reduceToNat]
    | with_reducible refine know_of fun _ => ?_
    | with_reducible refine ifD1 (by omega) ?_
    | with_reducible refine ifD0 (by omega) ?_
    | with_reducible refine ifE1 (by omega) ?_
    | with_reducible refine ifE0 (by omega) ?_
    | with_reducible refine ifN1 (by omega) ?_
    | with_reducible refine ifN0 (by omega) ?_
    | with_reducible refine ifD_of (fun _ => ?_) (fun _ => ?_)
    | with_reducible refine ifE_of (fun _ => ?_) (fun _ => ?_)
    | with_reducible refine ifN_of (fun _ => ?_) (fun _ => ?_)
    | with_reducible refine Go.V.if1 (by assumption) ?_
    | with_reducible refine Go.V.if0 (by assumption) ?_
    | with_reducible refine if_of (fun _ => ?_) (fun _ => ?_)
    | with_reducible refine s_of (idx_get _ _ _ (by omega) (by omega)) ?_
    | with_reducible refine s_of (idx_get _ _ _ (by omega) (by simp only [List.length_set, List.length_append, List.length_take, List.length_drop, List.length_reverse, List.length_singleton]; omega)) ?_
    | with_reducible refine s_of (map_get _ _ _ (by omega)) ?_
    | with_reducible refine s_of (map_get _ _ _ (by simp only [List.length_set]; omega)) ?_
    | with_reducible refine s_of (if_neg (by omega)) ?_
    | with_reducible refine s_of (if_pos (by omega)) ?_
    | with_reducible refine need_of (by omega) ?_
    | with_reducible refine nil_of (fun _ => ?_) ?_
    | with_reducible refine alt_of ?_ ?_
    | (with_reducible apply join_of; intro _ _)
    | with_reducible assumption)
  all_goals first | exact h | (simp only [over] at h; (repeat' split at h) <;> first | exact h | contradiction | (exfalso; omega) | (exfalso; simp_all; done) | (simpa [*, -h] using h))
theorem weigh_Add (a b : Int) (Q : PV → Mem → Prop)  (h : Q (.tup [vi (over (a + b)).1, vi (over (a + b)).2]) []) : Does Tryz.prog 91 [vi a, vi b] [] 0 Q := by
  refine does_of mixed Tryz.func91 rfl (by kernel_rfl) no (slots []) ?_
  simp only [Tryz.f91]
  repeat' (first
    | rw [w64_of _ (by omega)]
    | simp -implicitDefEqProofs only [go_sem, Nat.reduceAdd, Nat.reduceEqDiff, Nat.reduceLT, Nat.reduceBEq, Nat.reduceLeDiff, Nat.reduceSub, Int.reduceLE, Int.reduceNeg, Int.reduceEq, Int.reduceToNat]
    | with_reducible refine know_of fun _ => ?_
    | with_reducible refine ifD1 (by omega) ?_
    | with_reducible refine ifD0 (by omega) ?_
    | with_reducible refine ifE1 (by omega) ?_
    | with_reducible refine ifE0 (by omega) ?_
    | with_reducible refine ifN1 (by omega) ?_
    | with_reducible refine ifN0 (by omega) ?_
    | with_reducible refine ifD_of (fun _ => ?_) (fun _ => ?_)
    | with_reducible refine ifE_of (fun _ => ?_) (fun _ => ?_)
    | with_reducible refine ifN_of (fun _ => ?_) (fun _ => ?_)
    | with_reducible refine Go.V.if1 (by assumption) ?_
    | with_reducible refine Go.V.if0 (by assumption) ?_
    | with_reducible refine if_of (fun _ => ?_) (fun _ => ?_)
    | with_reducible refine s_of (idx_get _ _ _ (by omega) (by omega)) ?_
    | with_reducible refine s_of (idx_get _ _ _ (by omega) (by simp only [List.length_set, List.length_append, List.length_take, List.length_drop, List.length_reverse, List.length_singleton]; omega)) ?_
    | with_reducible refine s_of (map_get _ _ _ (by omega)) ?_
    | with_reducible refine s_of (map_get _ _ _ (by simp only [List.length_set]; omega)) ?_
    | with_reducible refine s_of (if_neg (by omega)) ?_
    | with_reducible refine s_of (if_pos (by omega)) ?_
    | with_reducible refine need_of (by omega) ?_
    | with_reducible refine nil_of (fun _ => ?_) ?_
    | with_reducible refine alt_of ?_ ?_
    | (with_reducible apply join_of; intro _ _)
    | with_reducible assumption)
  all_goals first | exact h | (simp only [over] at h; (repeat' split at h) <;> first | exact h | contradiction | (exfalso; omega) | (exfalso; simp_all; done) | (simpa [*, -h] using h))
theorem weigh_Neg (a : Int) (Q : PV → Mem → Prop)  (h : Q (.tup [vi (over (0 - a)).1, vi (over (0 - a)).2]) []) : Does Tryz.prog 113 [vi a] [] 0 Q := by
  refine does_of mixed Tryz.func113 rfl (by kernel_rfl) no (slots []) ?_
  simp only [Tryz.f113]
  repeat' (first
    | simp -implicitDefEqProofs only [go_sem, Nat.reduceAdd, Nat.reduceEqDiff, Nat.reduceLT, Nat.reduceBEq, Nat.reduceLeDiff, Nat.reduceSub, Int.reduceLE, Int.reduceNeg, Int.reduceEq, Int.reduceToNat]
    | with_reducible refine know_of fun _ => ?_
    | (with_reducible refine does_then (weigh_Sub _ _ _ ?_))
    | with_reducible refine ifD1 (by omega) ?_
    | with_reducible refine ifD0 (by omega) ?_
    | with_reducible refine ifE1 (by omega) ?_
    | with_reducible refine ifE0 (by omega) ?_
    | with_reducible refine ifN1 (by omega) ?_
    | with_reducible refine ifN0 (by omega) ?_
    | with_reducible refine ifD_of (fun _ => ?_) (fun _ => ?_)
    | with_reducible refine ifE_of (fun _ => ?_) (fun _ => ?_)
    | with_reducible refine ifN_of (fun _ => ?_) (fun _ => ?_)
    | with_reducible refine Go.V.if1 (by assumption) ?_
    | with_reducible refine Go.V.if0 (by assumption) ?_
    | with_reducible refine if_of (fun _ => ?_) (fun _ => ?_)
    | with_reducible refine s_of (idx_get _ _ _ (by omega) (by omega)) ?_
    | with_reducible refine s_of (idx_get _ _ _ (by omega) (by simp only [List.length_set, List.length_append, List.length_take, List.length_drop, List.length_reverse, List.length_singleton]; omega)) ?_
    | with_reducible refine s_of (map_get _ _ _ (by omega)) ?_
    | with_reducible refine s_of (map_get _ _ _ (by simp only [List.length_set]; omega)) ?_
    | with_reducible refine s_of (if_neg (by omega)) ?_
    | with_reducible refine s_of (if_pos (by omega)) ?_
    | with_reducible refine need_of (by omega) ?_
    | with_reducible refine nil_of (fun _ => ?_) ?_
    | with_reducible refine alt_of ?_ ?_
    | (with_reducible apply join_of; intro _ _)
    | with_reducible assumption)
  all_goals first | exact h | simpa using h
theorem ref20_Is (k : Int) (Q : PV → Mem → Prop)  (h : Q (vb (isF k)) []) : Does Tryz.prog 48 [vi k] [] 0 Q := by
  refine does_of mixed Tryz.func48 rfl (by kernel_rfl) no (slots []) ?_
  simp only [Tryz.f48]
  repeat' (first
    | simp -implicitDefEqProofs only [go_sem, Nat.reduceAdd, Nat.reduceEqDiff, Nat.reduceLT, Nat.reduceBEq, Nat.reduceLeDiff, Nat.reduceSub, Int.reduceLE, Int.reduceNeg, Int.reduceEq, Int.reduceToNat]
    | with_reducible refine know_of fun _ => ?_
    | with_reducible refine ifD1 (by omega) ?_
    | with_reducible refine ifD0 (by omega) ?_
    | with_reducible refine ifE1 (by omega) ?_
    | with_reducible refine ifE0 (by omega) ?_
    | with_reducible refine ifN1 (by omega) ?_
    | with_reducible refine ifN0 (by omega) ?_
    | with_reducible refine ifD_of (fun _ => ?_) (fun _ => ?_)
    | with_reducible refine ifE_of (fun _ => ?_) (fun _ => ?_)
    | with_reducible refine ifN_of (fun _ => ?_) (fun _ => ?_)
    | with_reducible refine Go.V.if1 (by assumption) ?_
    | with_reducible refine Go.V.if0 (by assumption) ?_
    | with_reducible refine if_of (fun _ => ?_) (fun _ => ?_)
    | with_reducible refine s_of (idx_get _ _ _ (by omega) (by omega)) ?_
    | with_reducible refine s_of (idx_get _ _ _ (by omega) (by simp only [List.length_set, List.length_append, List.length_take, List.length_drop, List.length_reverse, List.length_singleton]; omega)) ?_
    | with_reducible refine s_of (map_get _ _ _ (by omega)) ?_
    | with_reducible refine s_of (map_get _ _ _ (by simp only [List.length_set]; omega)) ?_
    | with_reducible refine s_of (if_neg (by omega)) ?_
    | with_reducible refine s_of (if_pos (by omega)) ?_
    | with_reducible refine need_of (by omega) ?_
    | with_reducible refine nil_of (fun _ => ?_) ?_
    | with_reducible refine alt_of ?_ ?_
    | (with_reducible apply join_of; intro _ _)
    | with_reducible assumption)
  all_goals first | exact h | (refine Eq.mp (congrArg (fun x => Q (.val (.bool x)) []) ?_) h; simp only [isF]; (repeat' split) <;> first | rfl | (exfalso; omega) | (simp <;> omega) | (simp [*]; done))
theorem halves (x y : Int) : x * y = (x / 4294967296) * (y / 4294967296) * 18446744073709551616 + ((x / 4294967296) * (y % 4294967296) + (x % 4294967296) * (y / 4294967296)) * 4294967296 + (x % 4294967296) * (y % 4294967296) := by
  have hx : x = 4294967296 * (x / 4294967296) + x % 4294967296 := (Int.mul_ediv_add_emod x 4294967296).symm
  have hy : y = 4294967296 * (y / 4294967296) + y % 4294967296 := (Int.mul_ediv_add_emod y 4294967296).symm
  generalize x / 4294967296 = x1 at *
  generalize x % 4294967296 = x0 at *
  generalize y / 4294967296 = y1 at *
  generalize y % 4294967296 = y0 at *
  subst hx hy
  simp only [Int.mul_add, Int.add_mul]
  have e1 : 4294967296 * x1 * (4294967296 * y1) = x1 * y1 * 18446744073709551616 := by
    rw [Int.mul_assoc, Int.mul_left_comm x1, ← Int.mul_assoc, Int.mul_comm (x1 * y1)]; rfl
  have e2 : x0 * (4294967296 * y1) = x0 * y1 * 4294967296 := by rw [Int.mul_left_comm, Int.mul_comm]
  have e3 : 4294967296 * x1 * y0 = x1 * y0 * 4294967296 := by rw [Int.mul_assoc, Int.mul_comm]
  omega
theorem bound32 {x y : Int} (hx0 : 0 ≤ x) (hx : x ≤ 4294967295) (hy0 : 0 ≤ y) (hy : y ≤ 4294967295) : 0 ≤ x * y ∧ x * y ≤ 18446744065119617025 :=
  ⟨Int.mul_nonneg hx0 hy0, Int.le_trans (Int.mul_le_mul hx hy hy0 (by decide)) (by decide)⟩
theorem mul64_eq {x y : Int} (hx : 0 ≤ x ∧ x ≤ 18446744073709551615) (hy : 0 ≤ y ∧ y ≤ 18446744073709551615) : wu (wu (wu (x / 4294967296 * (y / 4294967296)) + wu (wu (x / 4294967296 * (y % 4294967296)) + wu (x % 4294967296 * (y % 4294967296)) / 4294967296) / 4294967296) + wu (wu (wu (x / 4294967296 * (y % 4294967296)) + wu (x % 4294967296 * (y % 4294967296)) / 4294967296) % 4294967296 + wu (x % 4294967296 * (y / 4294967296))) / 4294967296) = x * y / 18446744073709551616 := by
  have hxy := halves x y
  have b11 := bound32 (x := x / 4294967296) (y := y / 4294967296) (by omega) (by omega) (by omega) (by omega)
  have b10 := bound32 (x := x / 4294967296) (y := y % 4294967296) (by omega) (by omega) (by omega) (by omega)
  have b01 := bound32 (x := x % 4294967296) (y := y / 4294967296) (by omega) (by omega) (by omega) (by omega)
  have b00 := bound32 (x := x % 4294967296) (y := y % 4294967296) (by omega) (by omega) (by omega) (by omega)
  have bxy : x * y ≤ 18446744073709551615 * 18446744073709551615 := Int.mul_le_mul hx.2 hy.2 hy.1 (by decide)
  generalize x / 4294967296 * (y / 4294967296) = s at *
  generalize x / 4294967296 * (y % 4294967296) = q at *
  generalize x % 4294967296 * (y / 4294967296) = r at *
  generalize x % 4294967296 * (y % 4294967296) = p at *
  generalize x * y = P at *
  clear hx hy
  rw [wu_of s (by omega), wu_of q (by omega), wu_of p (by omega), wu_of r (by omega), wu_of (q + p / 4294967296) (by omega), wu_of ((q + p / 4294967296) % 4294967296 + r) (by omega), wu_of (s + (q + p / 4294967296) / 4294967296) (by omega)]
  have hP : P / 18446744073709551616 = s + (q + p / 4294967296) / 4294967296 + ((q + p / 4294967296) % 4294967296 + r) / 4294967296 := by omega
  rw [hP]
  exact wu_of _ (by omega)
theorem q1 {F : Int → Prop} {a a' : Int} (h : F a) (h1 : a = a') : F a' := h1 ▸ h
theorem q2 {F : Int → Int → Prop} {a b a' b' : Int} (h : F a b) (h1 : a = a') (h2 : b = b') : F a' b' := by subst h1; subst h2; exact h
theorem abs_r {a : Int} (h : -9223372036854775808 ≤ a ∧ a ≤ 9223372036854775807) : 0 ≤ abs' a ∧ abs' a ≤ 9223372036854775808 := by unfold abs'; split <;> omega
theorem abs_mul (a b : Int) : a * b = if (decide (a < 0) != decide (b < 0)) = true then -(abs' a * abs' b) else abs' a * abs' b := by
  unfold abs'
  by_cases h1 : a < 0 <;> by_cases h2 : b < 0 <;> simp [h1, h2, Int.neg_mul, Int.mul_neg]
theorem bits_Mul64 (a b : Int) (Q : PV → Mem → Prop) (ha : 0 ≤ a ∧ a ≤ 18446744073709551615) (hb : 0 ≤ b ∧ b ≤ 18446744073709551615) (h : Q (.tup [vu (a * b / 18446744073709551616), vu (a * b % 18446744073709551616)]) []) : Does Tryz.prog 149 [vu a, vu b] [] 0 Q := by
  refine does_of mixed Tryz.func149 rfl (by kernel_rfl) no (slots []) ?_
  simp only [Tryz.f149]
  repeat' (first
    | simp -implicitDefEqProofs only [go_sem, Nat.reduceAdd, Nat.reduceEqDiff, Nat.reduceLT, Nat.reduceBEq, Nat.reduceLeDiff, Nat.reduceSub, Int.reduceLE, Int.reduceNeg, Int.reduceEq, Int.reduceToNat]
    | with_reducible refine know_of fun _ => ?_
    | with_reducible refine ifD1 (by omega) ?_
    | with_reducible refine ifD0 (by omega) ?_
    | with_reducible refine ifE1 (by omega) ?_
    | with_reducible refine ifE0 (by omega) ?_
    | with_reducible refine ifN1 (by omega) ?_
    | with_reducible refine ifN0 (by omega) ?_
    | with_reducible refine ifD_of (fun _ => ?_) (fun _ => ?_)
    | with_reducible refine ifE_of (fun _ => ?_) (fun _ => ?_)
    | with_reducible refine ifN_of (fun _ => ?_) (fun _ => ?_)
    | with_reducible refine Go.V.if1 (by assumption) ?_
    | with_reducible refine Go.V.if0 (by assumption) ?_
    | with_reducible refine if_of (fun _ => ?_) (fun _ => ?_)
    | with_reducible refine s_of (idx_get _ _ _ (by omega) (by omega)) ?_
    | with_reducible refine s_of (idx_get _ _ _ (by omega) (by simp only [List.length_set, List.length_append, List.length_take, List.length_drop, List.length_reverse, List.length_singleton]; omega)) ?_
    | with_reducible refine s_of (map_get _ _ _ (by omega)) ?_
    | with_reducible refine s_of (map_get _ _ _ (by simp only [List.length_set]; omega)) ?_
    | with_reducible refine s_of (if_neg (by omega)) ?_
    | with_reducible refine s_of (if_pos (by omega)) ?_
    | with_reducible refine need_of (by omega) ?_
    | with_reducible refine nil_of (fun _ => ?_) ?_
    | with_reducible refine alt_of ?_ ?_
    | (with_reducible apply join_of; intro _ _)
    | with_reducible assumption)
  all_goals exact q2 (F := fun x y => Q (.tup [vu x, vu y]) []) h (mul64_eq ha hb).symm (wu_eq _).symm
theorem weigh_size (a : Int) (Q : PV → Mem → Prop)  (h : -9223372036854775808 ≤ a ∧ a ≤ 9223372036854775807 → 0 ≤ abs' a ∧ abs' a ≤ 9223372036854775808 → Q (vu (abs' a)) []) : Does Tryz.prog 150 [vi a] [] 0 Q := by
  refine does_of mixed Tryz.func150 rfl (by kernel_rfl) no (slots []) ?_
  simp only [Tryz.f150]
  repeat' (first
    | rw [w64_of _ (by omega)]
    | rw [wu_of _ (by omega)]
    | simp -implicitDefEqProofs only [go_sem, Nat.reduceAdd, Nat.reduceEqDiff, Nat.reduceLT, Nat.reduceBEq, Nat.reduceLeDiff, Nat.reduceSub, Int.reduceLE, Int.reduceNeg, Int.reduceEq, Int.reduceToNat]
    | with_reducible refine know_of fun _ => ?_
    | with_reducible refine ifD1 (by omega) ?_
    | with_reducible refine ifD0 (by omega) ?_
    | with_reducible refine ifE1 (by omega) ?_
    | with_reducible refine ifE0 (by omega) ?_
    | with_reducible refine ifN1 (by omega) ?_
    | with_reducible refine ifN0 (by omega) ?_
    | with_reducible refine ifD_of (fun _ => ?_) (fun _ => ?_)
    | with_reducible refine ifE_of (fun _ => ?_) (fun _ => ?_)
    | with_reducible refine ifN_of (fun _ => ?_) (fun _ => ?_)
    | with_reducible refine Go.V.if1 (by assumption) ?_
    | with_reducible refine Go.V.if0 (by assumption) ?_
    | with_reducible refine if_of (fun _ => ?_) (fun _ => ?_)
    | with_reducible refine s_of (idx_get _ _ _ (by omega) (by omega)) ?_
    | with_reducible refine s_of (idx_get _ _ _ (by omega) (by simp only [List.length_set, List.length_append, List.length_take, List.length_drop, List.length_reverse, List.length_singleton]; omega)) ?_
    | with_reducible refine s_of (map_get _ _ _ (by omega)) ?_
    | with_reducible refine s_of (map_get _ _ _ (by simp only [List.length_set]; omega)) ?_
    | with_reducible refine s_of (if_neg (by omega)) ?_
    | with_reducible refine s_of (if_pos (by omega)) ?_
    | with_reducible refine need_of (by omega) ?_
    | with_reducible refine nil_of (fun _ => ?_) ?_
    | with_reducible refine alt_of ?_ ?_
    | (with_reducible apply join_of; intro _ _)
    | with_reducible assumption)
  all_goals (replace h := h (by omega) (abs_r (by omega)); unfold abs' at h; first | (rw [if_pos (by assumption)] at h; rw [show 0 - (a + 1) + 1 = -a from by omega]; exact h) | (rw [if_neg (by assumption)] at h; exact h))
theorem weigh_Mul (a b : Int) (Q : PV → Mem → Prop)  (h : Q (.tup [vi (over (a * b)).1, vi (over (a * b)).2]) []) : Does Tryz.prog 102 [vi a, vi b] [] 0 Q := by
  refine does_of mixed Tryz.func102 rfl (by kernel_rfl) no (slots []) ?_
  simp only [Tryz.f102]
  repeat' (first
    | rw [wu_of _ (by omega)]
    | simp -implicitDefEqProofs only [go_sem, Nat.reduceAdd, Nat.reduceEqDiff, Nat.reduceLT, Nat.reduceBEq, Nat.reduceLeDiff, Nat.reduceSub, Int.reduceLE, Int.reduceNeg, Int.reduceEq, Int.reduceToNat]
    | with_reducible refine know_of fun _ => ?_
    | (with_reducible refine does_then (weigh_size _ _ fun _ _ => ?_))
    | (with_reducible refine does_then (bits_Mul64 _ _ _ (by omega) (by omega) ?_))
    | with_reducible refine ifD1 (by omega) ?_
    | with_reducible refine ifD0 (by omega) ?_
    | with_reducible refine ifE1 (by omega) ?_
    | with_reducible refine ifE0 (by omega) ?_
    | with_reducible refine ifN1 (by omega) ?_
    | with_reducible refine ifN0 (by omega) ?_
    | with_reducible refine ifD_of (fun _ => ?_) (fun _ => ?_)
    | with_reducible refine ifE_of (fun _ => ?_) (fun _ => ?_)
    | with_reducible refine ifN_of (fun _ => ?_) (fun _ => ?_)
    | with_reducible refine Go.V.if1 (by assumption) ?_
    | with_reducible refine Go.V.if0 (by assumption) ?_
    | with_reducible refine if_of (fun _ => ?_) (fun _ => ?_)
    | with_reducible refine s_of (idx_get _ _ _ (by omega) (by omega)) ?_
    | with_reducible refine s_of (idx_get _ _ _ (by omega) (by simp only [List.length_set, List.length_append, List.length_take, List.length_drop, List.length_reverse, List.length_singleton]; omega)) ?_
    | with_reducible refine s_of (map_get _ _ _ (by omega)) ?_
    | with_reducible refine s_of (map_get _ _ _ (by simp only [List.length_set]; omega)) ?_
    | with_reducible refine s_of (if_neg (by omega)) ?_
    | with_reducible refine s_of (if_pos (by omega)) ?_
    | with_reducible refine need_of (by omega) ?_
    | with_reducible refine nil_of (fun _ => ?_) ?_
    | with_reducible refine alt_of ?_ ?_
    | (with_reducible apply join_of; intro _ _)
    | with_reducible assumption)
  all_goals (
    have hab := abs_mul a b
    have hP : 0 ≤ abs' a * abs' b := Int.mul_nonneg (by omega) (by omega)
    first | rw [if_pos (by assumption)] at hab | rw [if_neg (by simp only [*]; decide)] at hab
    unfold over at h
    rw [hab] at h
    try rw [hab]
    generalize abs' a * abs' b = p at *
    clear hab
    (repeat' split at h) <;> first | exact h | (exfalso; omega) | (rw [w64_of _ (by omega)]; exact h))
theorem ref06_wide (a : Int) (Q : PV → Mem → Prop)  (h : -9223372036854775808 ≤ a ∧ a ≤ 9223372036854775807 → Q (.agg [vi ((a % 18446744073709551616) / 4294967296), vi (a % 4294967296)]) []) : Does Tryz.prog 156 [vi a] [] 0 Q := by
  refine does_of mixed Tryz.func156 rfl (by kernel_rfl) no (slots []) ?_
  simp only [Tryz.f156]
  repeat' (first
    | rw [w64_of _ (by omega)]
    | rw [wu_of _ (by omega)]
    | rw [wu_eq]
    | rw [Int.tmod_eq_emod_of_nonneg (by omega)]
    | rw [Int.tdiv_eq_ediv_of_nonneg (by omega)]
    | simp -implicitDefEqProofs only [go_sem, Nat.reduceAdd, Nat.reduceEqDiff, Nat.reduceLT, Nat.reduceBEq, Nat.reduceLeDiff, Nat.reduceSub, Int.reduceLE, Int.reduceNeg, Int.reduceEq, Int.reduceToNat]
    | with_reducible refine know_of fun _ => ?_
    | with_reducible refine ifD1 (by omega) ?_
    | with_reducible refine ifD0 (by omega) ?_
    | with_reducible refine ifE1 (by omega) ?_
    | with_reducible refine ifE0 (by omega) ?_
    | with_reducible refine ifN1 (by omega) ?_
    | with_reducible refine ifN0 (by omega) ?_
    | with_reducible refine ifD_of (fun _ => ?_) (fun _ => ?_)
    | with_reducible refine ifE_of (fun _ => ?_) (fun _ => ?_)
    | with_reducible refine ifN_of (fun _ => ?_) (fun _ => ?_)
    | with_reducible refine Go.V.if1 (by assumption) ?_
    | with_reducible refine Go.V.if0 (by assumption) ?_
    | with_reducible refine if_of (fun _ => ?_) (fun _ => ?_)
    | with_reducible refine s_of (idx_get _ _ _ (by omega) (by omega)) ?_
    | with_reducible refine s_of (idx_get _ _ _ (by omega) (by simp only [List.length_set, List.length_append, List.length_take, List.length_drop, List.length_reverse, List.length_singleton]; omega)) ?_
    | with_reducible refine s_of (map_get _ _ _ (by omega)) ?_
    | with_reducible refine s_of (map_get _ _ _ (by simp only [List.length_set]; omega)) ?_
    | with_reducible refine s_of (if_neg (by omega)) ?_
    | with_reducible refine s_of (if_pos (by omega)) ?_
    | with_reducible refine need_of (by omega) ?_
    | with_reducible refine nil_of (fun _ => ?_) ?_
    | with_reducible refine alt_of ?_ ?_
    | (with_reducible apply join_of; intro _ _)
    | with_reducible assumption)
  all_goals exact q2 (F := fun x y => Q (.agg [vi x, vi y]) []) (h (by omega)) (by omega) (by omega)
theorem ref06_signed (a : Int) (Q : PV → Mem → Prop)  (h : -9223372036854775808 ≤ a ∧ a ≤ 9223372036854775807 → Q (.agg [vi (a / 4294967296), vi (a % 4294967296)]) []) : Does Tryz.prog 118 [vi a] [] 0 Q := by
  refine does_of mixed Tryz.func118 rfl (by kernel_rfl) no (slots []) ?_
  simp only [Tryz.f118]
  repeat' (first
    | rw [w64_of _ (by omega)]
    | simp -implicitDefEqProofs only [go_sem, Nat.reduceAdd, Nat.reduceEqDiff, Nat.reduceLT, Nat.reduceBEq, Nat.reduceLeDiff, Nat.reduceSub, Int.reduceLE, Int.reduceNeg, Int.reduceEq, Int.reduceToNat]
    | with_reducible refine know_of fun _ => ?_
    | (with_reducible refine does_then (ref06_wide _ _ fun _ => ?_))
    | with_reducible refine ifD1 (by omega) ?_
    | with_reducible refine ifD0 (by omega) ?_
    | with_reducible refine ifE1 (by omega) ?_
    | with_reducible refine ifE0 (by omega) ?_
    | with_reducible refine ifN1 (by omega) ?_
    | with_reducible refine ifN0 (by omega) ?_
    | with_reducible refine ifD_of (fun _ => ?_) (fun _ => ?_)
    | with_reducible refine ifE_of (fun _ => ?_) (fun _ => ?_)
    | with_reducible refine ifN_of (fun _ => ?_) (fun _ => ?_)
    | with_reducible refine Go.V.if1 (by assumption) ?_
    | with_reducible refine Go.V.if0 (by assumption) ?_
    | with_reducible refine if_of (fun _ => ?_) (fun _ => ?_)
    | with_reducible refine s_of (idx_get _ _ _ (by omega) (by omega)) ?_
    | with_reducible refine s_of (idx_get _ _ _ (by omega) (by simp only [List.length_set, List.length_append, List.length_take, List.length_drop, List.length_reverse, List.length_singleton]; omega)) ?_
    | with_reducible refine s_of (map_get _ _ _ (by omega)) ?_
    | with_reducible refine s_of (map_get _ _ _ (by simp only [List.length_set]; omega)) ?_
    | with_reducible refine s_of (if_neg (by omega)) ?_
    | with_reducible refine s_of (if_pos (by omega)) ?_
    | with_reducible refine need_of (by omega) ?_
    | with_reducible refine nil_of (fun _ => ?_) ?_
    | with_reducible refine alt_of ?_ ?_
    | (with_reducible apply join_of; intro _ _)
    | with_reducible assumption)
  all_goals exact q2 (F := fun x y => Q (.agg [vi x, vi y]) []) (h (by omega)) (by omega) (by omega)
theorem ref06_narrow (a l : Int) (Q : PV → Mem → Prop) (h0 : 0 ≤ l) (h1 : l < 4294967296) (h : Q (.tup [vi (over (a * 4294967296 + l)).1, vi (over (a * 4294967296 + l)).2]) []) : Does Tryz.prog 119 [.agg [vi a, vi l]] [] 0 Q := by
  refine does_of mixed Tryz.func119 rfl (by kernel_rfl) no (slots []) ?_
  simp only [Tryz.f119]
  repeat' (first
    | rw [w64_of _ (by omega)]
    | simp -implicitDefEqProofs only [go_sem, Nat.reduceAdd, Nat.reduceEqDiff, Nat.reduceLT, Nat.reduceBEq, Nat.reduceLeDiff, Nat.reduceSub, Int.reduceLE, Int.reduceNeg, Int.reduceEq, Int.reduceToNat]
    | with_reducible refine know_of fun _ => ?_
    | with_reducible refine ifD1 (by omega) ?_
    | with_reducible refine ifD0 (by omega) ?_
    | with_reducible refine ifE1 (by omega) ?_
    | with_reducible refine ifE0 (by omega) ?_
    | with_reducible refine ifN1 (by omega) ?_
    | with_reducible refine ifN0 (by omega) ?_
    | with_reducible refine ifD_of (fun _ => ?_) (fun _ => ?_)
    | with_reducible refine ifE_of (fun _ => ?_) (fun _ => ?_)
    | with_reducible refine ifN_of (fun _ => ?_) (fun _ => ?_)
    | with_reducible refine Go.V.if1 (by assumption) ?_
    | with_reducible refine Go.V.if0 (by assumption) ?_
    | with_reducible refine if_of (fun _ => ?_) (fun _ => ?_)
    | with_reducible refine s_of (idx_get _ _ _ (by omega) (by omega)) ?_
    | with_reducible refine s_of (idx_get _ _ _ (by omega) (by simp only [List.length_set, List.length_append, List.length_take, List.length_drop, List.length_reverse, List.length_singleton]; omega)) ?_
    | with_reducible refine s_of (map_get _ _ _ (by omega)) ?_
    | with_reducible refine s_of (map_get _ _ _ (by simp only [List.length_set]; omega)) ?_
    | with_reducible refine s_of (if_neg (by omega)) ?_
    | with_reducible refine s_of (if_pos (by omega)) ?_
    | with_reducible refine need_of (by omega) ?_
    | with_reducible refine nil_of (fun _ => ?_) ?_
    | with_reducible refine alt_of ?_ ?_
    | (with_reducible apply join_of; intro _ _)
    | with_reducible assumption)
  all_goals first | exact h | (simp only [over] at h; (repeat' split at h) <;> first | exact h | contradiction | (exfalso; omega) | (exfalso; simp_all; done) | (simpa [*, -h] using h))
theorem ref06_Add (a b : Int) (Q : PV → Mem → Prop)  (h : Q (.tup [vi (over (a + b)).1, vi (over (a + b)).2]) []) : Does Tryz.prog 62 [vi a, vi b] [] 0 Q := by
  refine does_of mixed Tryz.func62 rfl (by kernel_rfl) no (slots []) ?_
  simp only [Tryz.f62]
  repeat' (first
    | rw [w64_of _ (by omega)]
    | rw [Int.tmod_eq_emod_of_nonneg (by omega)]
    | rw [Int.tdiv_eq_ediv_of_nonneg (by omega)]
    | simp -implicitDefEqProofs only [go_sem, Nat.reduceAdd, Nat.reduceEqDiff, Nat.reduceLT, Nat.reduceBEq, Nat.reduceLeDiff, Nat.reduceSub, Int.reduceLE, Int.reduceNeg, Int.reduceEq, Int.reduceToNat]
    | with_reducible refine know_of fun _ => ?_
    | (with_reducible refine does_then (ref06_signed _ _ fun _ => ?_))
    | (with_reducible refine does_then (ref06_narrow _ _ _ (by omega) (by omega) ?_))
    | with_reducible refine ifD1 (by omega) ?_
    | with_reducible refine ifD0 (by omega) ?_
    | with_reducible refine ifE1 (by omega) ?_
    | with_reducible refine ifE0 (by omega) ?_
    | with_reducible refine ifN1 (by omega) ?_
    | with_reducible refine ifN0 (by omega) ?_
    | with_reducible refine ifD_of (fun _ => ?_) (fun _ => ?_)
    | with_reducible refine ifE_of (fun _ => ?_) (fun _ => ?_)
    | with_reducible refine ifN_of (fun _ => ?_) (fun _ => ?_)
    | with_reducible refine Go.V.if1 (by assumption) ?_
    | with_reducible refine Go.V.if0 (by assumption) ?_
    | with_reducible refine if_of (fun _ => ?_) (fun _ => ?_)
    | with_reducible refine s_of (idx_get _ _ _ (by omega) (by omega)) ?_
    | with_reducible refine s_of (idx_get _ _ _ (by omega) (by simp only [List.length_set, List.length_append, List.length_take, List.length_drop, List.length_reverse, List.length_singleton]; omega)) ?_
    | with_reducible refine s_of (map_get _ _ _ (by omega)) ?_
    | with_reducible refine s_of (map_get _ _ _ (by simp only [List.length_set]; omega)) ?_
    | with_reducible refine s_of (if_neg (by omega)) ?_
    | with_reducible refine s_of (if_pos (by omega)) ?_
    | with_reducible refine need_of (by omega) ?_
    | with_reducible refine nil_of (fun _ => ?_) ?_
    | with_reducible refine alt_of ?_ ?_
    | (with_reducible apply join_of; intro _ _)
    | with_reducible assumption)
  all_goals exact q1 (F := fun n => Q (.tup [vi (over n).1, vi (over n).2]) []) h (by omega)
theorem ref06_Sub (a b : Int) (Q : PV → Mem → Prop)  (h : Q (.tup [vi (over (a - b)).1, vi (over (a - b)).2]) []) : Does Tryz.prog 63 [vi a, vi b] [] 0 Q := by
  refine does_of mixed Tryz.func63 rfl (by kernel_rfl) no (slots []) ?_
  simp only [Tryz.f63]
  repeat' (first
    | rw [w64_of _ (by omega)]
    | simp -implicitDefEqProofs only [go_sem, Nat.reduceAdd, Nat.reduceEqDiff, Nat.reduceLT, Nat.reduceBEq, Nat.reduceLeDiff, Nat.reduceSub, Int.reduceLE, Int.reduceNeg, Int.reduceEq, Int.reduceToNat]
    | with_reducible refine know_of fun _ => ?_
    | (with_reducible refine does_then (ref06_signed _ _ fun _ => ?_))
    | (with_reducible refine does_then (ref06_narrow _ _ _ (by omega) (by omega) ?_))
    | with_reducible refine ifD1 (by omega) ?_
    | with_reducible refine ifD0 (by omega) ?_
    | with_reducible refine ifE1 (by omega) ?_
    | with_reducible refine ifE0 (by omega) ?_
    | with_reducible refine ifN1 (by omega) ?_
    | with_reducible refine ifN0 (by omega) ?_
    | with_reducible refine ifD_of (fun _ => ?_) (fun _ => ?_)
    | with_reducible refine ifE_of (fun _ => ?_) (fun _ => ?_)
    | with_reducible refine ifN_of (fun _ => ?_) (fun _ => ?_)
    | with_reducible refine Go.V.if1 (by assumption) ?_
    | with_reducible refine Go.V.if0 (by assumption) ?_
    | with_reducible refine if_of (fun _ => ?_) (fun _ => ?_)
    | with_reducible refine s_of (idx_get _ _ _ (by omega) (by omega)) ?_
    | with_reducible refine s_of (idx_get _ _ _ (by omega) (by simp only [List.length_set, List.length_append, List.length_take, List.length_drop, List.length_reverse, List.length_singleton]; omega)) ?_
    | with_reducible refine s_of (map_get _ _ _ (by omega)) ?_
    | with_reducible refine s_of (map_get _ _ _ (by simp only [List.length_set]; omega)) ?_
    | with_reducible refine s_of (if_neg (by omega)) ?_
    | with_reducible refine s_of (if_pos (by omega)) ?_
    | with_reducible refine need_of (by omega) ?_
    | with_reducible refine nil_of (fun _ => ?_) ?_
    | with_reducible refine alt_of ?_ ?_
    | (with_reducible apply join_of; intro _ _)
    | with_reducible assumption)
  all_goals exact q1 (F := fun n => Q (.tup [vi (over n).1, vi (over n).2]) []) h (by omega)
theorem quotient_in {p b : Int} (hp : -9223372036854775808 ≤ p ∧ p ≤ 9223372036854775807) (hb1 : b ≠ 0) (hb2 : b ≠ -1) : -9223372036854775808 ≤ Int.tdiv p b ∧ Int.tdiv p b ≤ 9223372036854775807 := by
  have h := Int.natAbs_tdiv p b
  by_cases h1 : b = 1
  · subst h1; rw [Int.tdiv_one]; exact hp
  · have h2 : 2 ≤ b.natAbs := by omega
    have h3 : (Int.tdiv p b).natAbs ≤ p.natAbs / 2 := by rw [h]; exact Nat.div_le_div_left h2 (by decide)
    clear h
    generalize Int.tdiv p b = q at *
    omega
theorem mul_fits {a b : Int} (b0 : b ≠ 0) (b1 : b ≠ -1) (hb : -9223372036854775808 ≤ b ∧ b ≤ 9223372036854775807) (ha : -9223372036854775808 ≤ a ∧ a ≤ 9223372036854775807) (h : w64 ((w64 (a * b)).tdiv b) = a) : -9223372036854775808 ≤ a * b ∧ a * b ≤ 9223372036854775807 := by
  by_cases hf : -9223372036854775808 ≤ a * b ∧ a * b ≤ 9223372036854775807
  · exact hf
  exfalso
  have hw : -9223372036854775808 ≤ w64 (a * b) ∧ w64 (a * b) ≤ 9223372036854775807 := by rw [w64_eq]; generalize a * b = m at *; omega
  have hc : ∃ c : Int, w64 (a * b) = a * b - c * 18446744073709551616 := by
    refine ⟨(a * b + 9223372036854775808) / 18446744073709551616, ?_⟩
    rw [w64_eq]; generalize a * b = m at *; omega
  generalize w64 (a * b) = p at *
  rw [w64_of _ (quotient_in hw b0 b1)] at h
  have hm := Int.mul_tdiv_add_tmod p b
  have hr := Int.natAbs_tmod p b
  have hl : p.natAbs % b.natAbs < b.natAbs := Nat.mod_lt _ (by omega)
  rw [h, Int.mul_comm b a] at hm
  generalize a * b = m at *
  generalize Int.tmod p b = t at *
  obtain ⟨c, hc⟩ := hc
  omega
theorem mul_back {a b : Int} (b0 : b ≠ 0) (ha : -9223372036854775808 ≤ a ∧ a ≤ 9223372036854775807) (h : -9223372036854775808 ≤ a * b ∧ a * b ≤ 9223372036854775807) : w64 ((w64 (a * b)).tdiv b) = a := by
  rw [w64_of _ h, Int.mul_tdiv_cancel a b0, w64_of _ ha]
theorem mul_sign {a b : Int} (a0 : a ≠ 0) (b0 : b ≠ 0) : (decide (a * b < 0) != (decide (a < 0) != decide (b < 0))) = false := by
  by_cases h1 : a < 0 <;> by_cases h2 : b < 0
  · have := Int.mul_pos_of_neg_of_neg h1 h2
    simp [h1, h2]; omega
  · have := Int.mul_neg_of_neg_of_pos h1 (show 0 < b by omega)
    simp [h1, h2, this]
  · have := Int.mul_neg_of_pos_of_neg (show 0 < a by omega) h2
    simp [h1, h2, this]
  · have := Int.mul_pos (show 0 < a by omega) (show 0 < b by omega)
    simp [h1, h2]; omega
theorem ref06_Mul (a b : Int) (Q : PV → Mem → Prop)  (h : Q (.tup [vi (over (a * b)).1, vi (over (a * b)).2]) []) : Does Tryz.prog 205 [vi a, vi b] [] 0 Q := by
  refine does_of mixed Tryz.func205 rfl (by kernel_rfl) no (slots []) ?_
  simp only [Tryz.f205]
  repeat' (first
    | simp -implicitDefEqProofs only [go_sem, Nat.reduceAdd, Nat.reduceEqDiff, Nat.reduceLT, Nat.reduceBEq, Nat.reduceLeDiff, Nat.reduceSub, Int.reduceLE, Int.reduceNeg, Int.reduceEq, Int.reduceToNat]
    | with_reducible refine know_of fun _ => ?_
    | (with_reducible refine does_then (ref06_Sub _ _ _ ?_))
    | with_reducible refine ifD1 (by omega) ?_
    | with_reducible refine ifD0 (by omega) ?_
    | with_reducible refine ifE1 (by omega) ?_
    | with_reducible refine ifE0 (by omega) ?_
    | with_reducible refine ifN1 (by omega) ?_
    | with_reducible refine ifN0 (by omega) ?_
    | with_reducible refine ifD_of (fun _ => ?_) (fun _ => ?_)
    | with_reducible refine ifE_of (fun _ => ?_) (fun _ => ?_)
    | with_reducible refine ifN_of (fun _ => ?_) (fun _ => ?_)
    | with_reducible refine Go.V.if1 (by assumption) ?_
    | with_reducible refine Go.V.if0 (by assumption) ?_
    | with_reducible refine if_of (fun _ => ?_) (fun _ => ?_)
    | with_reducible refine s_of (idx_get _ _ _ (by omega) (by omega)) ?_
    | with_reducible refine s_of (idx_get _ _ _ (by omega) (by simp only [List.length_set, List.length_append, List.length_take, List.length_drop, List.length_reverse, List.length_singleton]; omega)) ?_
    | with_reducible refine s_of (map_get _ _ _ (by omega)) ?_
    | with_reducible refine s_of (map_get _ _ _ (by simp only [List.length_set]; omega)) ?_
    | with_reducible refine s_of (if_neg (by omega)) ?_
    | with_reducible refine s_of (if_pos (by omega)) ?_
    | with_reducible refine need_of (by omega) ?_
    | with_reducible refine nil_of (fun _ => ?_) ?_
    | with_reducible refine alt_of ?_ ?_
    | (with_reducible apply join_of; intro _ _)
    | with_reducible assumption)
  all_goals first
    | (rw [show a = 0 by assumption, Int.zero_mul] at h; simpa [over] using h)
    | (rw [show b = 0 by assumption, Int.mul_zero] at h; simpa [over] using h)
    | (rw [show a = -1 by assumption] at h ⊢
       rw [show w64 (0 - -1) = 1 from by rw [w64_of _ (by omega)]; rfl, Int.one_mul, w64_of b (by omega)]
       exact q1 (F := fun n => Q (.tup [vi (over n).1, vi (over n).2]) []) h (by omega))
    | (rw [show b = -1 by assumption] at h ⊢
       by_cases hm : a = -9223372036854775808
       · subst hm
         rw [show w64 (w64 (0 - -9223372036854775808) * -1) = -9223372036854775808 from by rw [w64_eq, w64_eq]; rfl]
         exact q1 (F := fun n => Q (.tup [vi (over n).1, vi (over n).2]) []) h (by omega)
       · rw [w64_of (0 - a) (by omega), w64_of _ (by omega)]
         exact q1 (F := fun n => Q (.tup [vi (over n).1, vi (over n).2]) []) h (by omega))
    | (have hf := mul_fits (a := a) (b := b) (by assumption) (by assumption) (by omega) (by omega) (by assumption)
       have hs := mul_sign (a := a) (b := b) (by assumption) (by assumption)
       rw [w64_of _ hf] at *
       unfold over at h
       rw [if_pos hf] at h
       first | exact h | (simp_all; done))
    | (have hf : ¬ (-9223372036854775808 ≤ a * b ∧ a * b ≤ 9223372036854775807) := fun hf => absurd (mul_back (by assumption) (by omega) hf) (by assumption)
       unfold over at h
       rw [if_neg hf] at h
       exact h)
end Go.V
