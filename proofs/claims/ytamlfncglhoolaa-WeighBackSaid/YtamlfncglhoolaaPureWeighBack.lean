/- What is added is taken away again, for any two integers. No condition beyond the statement's own. -/
import Derived.Test.YtamlfncglhoolaaQWeighBackx1
namespace Go.Proofs.Ytamlfncglhoolaa.Pure
open Go.RowKit Go.Proofs.Ytamlfncglhoolaa.QWeighBack Go.Proofs.YtamlfncglhoolaaW.PrintWords Go.Proofs.YtamlfncglhoolaaW.PrintLast

/-- Both ends of what an int64 holds. -/
theorem wf64 {x : Int} (h : (Lit.int .i64 x).wf = true) : -9223372036854775808 ≤ x ∧ x ≤ 9223372036854775807 := by
  simp only [Lit.wf, IntKind.min, IntKind.max, IntKind.signed, IntKind.bits, Bool.and_eq_true, decide_eq_true_eq, if_true] at h
  omega
/-- What a sum, a difference, a product comes to: the number, where it fits; else the error 60. -/
def fit (s : Int) : Int × Int := if -9223372036854775808 ≤ s ∧ s ≤ 9223372036854775807 then (s, 0) else (0, 60)
theorem fit_in {s : Int} (h : -9223372036854775808 ≤ s ∧ s ≤ 9223372036854775807) : fit s = (s, 0) := if_pos h
theorem fit_out {s : Int} (h : ¬ (-9223372036854775808 ≤ s ∧ s ≤ 9223372036854775807)) : fit s = (0, 60) := if_neg h
theorem fit_1 (s : Int) : -9223372036854775808 ≤ (fit s).1 ∧ (fit s).1 ≤ 9223372036854775807 := by
  unfold fit; split <;> simp_all
theorem fit_2 (s : Int) : (fit s).2 = 0 ∨ (fit s).2 = 60 := by
  unfold fit; split <;> simp
theorem fit_ok {s : Int} (h : (fit s).2 = 0) : (-9223372036854775808 ≤ s ∧ s ≤ 9223372036854775807) ∧ (fit s).1 = s := by
  unfold fit at *; split <;> simp_all
theorem Add_is {a b : Int} (ha : -9223372036854775808 ≤ a ∧ a ≤ 9223372036854775807) (hb : -9223372036854775808 ≤ b ∧ b ≤ 9223372036854775807) : weigh_Add.f a b = some (fit (a + b)) := by
  unfold weigh_Add.f fit wrap64
  repeat' split
  all_goals first | rfl | (exfalso; omega) | (simp only [Option.some.injEq, Prod.mk.injEq, eq_self, and_true]; omega)
theorem Sub_is {a b : Int} (ha : -9223372036854775808 ≤ a ∧ a ≤ 9223372036854775807) (hb : -9223372036854775808 ≤ b ∧ b ≤ 9223372036854775807) : weigh_Sub.f a b = some (fit (a - b)) := by
  unfold weigh_Sub.f fit wrap64
  repeat' split
  all_goals first | rfl | (exfalso; omega) | (simp only [Option.some.injEq, Prod.mk.injEq, eq_self, and_true]; omega)
theorem size_is {a : Int} (ha : -9223372036854775808 ≤ a ∧ a ≤ 9223372036854775807) : weigh_size.f a = some (if a < 0 then -a else a) := by
  unfold weigh_size.f wrap64
  simp only [IntKind.wrap_u64]
  split <;> (simp only [Option.some.injEq]; omega)
theorem u64_stays (n : Int) (h0 : 0 ≤ n) (h1 : n < 2 ^ 64) : IntKind.u64.wrap n = n := by
  rw [IntKind.wrap_u64]; omega
theorem low32 {x : Int} (h0 : 0 ≤ x) (h1 : x < 18446744073709551616) : Go.bits .and .u64 x 4294967295 = x % 4294967296 :=
  bits_mask .u64 64 (by decide) u64_stays 32 (by decide) x h0 h1
theorem halves (x y : Int) : x * y = (x / 4294967296) * (y / 4294967296) * 18446744073709551616 + ((x / 4294967296) * (y % 4294967296) + (x % 4294967296) * (y / 4294967296)) * 4294967296 + (x % 4294967296) * (y % 4294967296) := by
  have hx : x = 4294967296 * (x / 4294967296) + x % 4294967296 := (Int.mul_ediv_add_emod x 4294967296).symm
  have hy : y = 4294967296 * (y / 4294967296) + y % 4294967296 := (Int.mul_ediv_add_emod y 4294967296).symm
  generalize x / 4294967296 = x1 at *
  generalize x % 4294967296 = x0 at *
  generalize y / 4294967296 = y1 at *
  generalize y % 4294967296 = y0 at *
  subst hx hy
  simp only [Int.mul_add, Int.add_mul]
  have e1 : 4294967296 * x1 * (4294967296 * y1) = x1 * y1 * 18446744073709551616 := by
    rw [Int.mul_assoc, Int.mul_left_comm x1, ← Int.mul_assoc, Int.mul_comm (x1 * y1)]; rfl
  have e2 : x0 * (4294967296 * y1) = x0 * y1 * 4294967296 := by rw [Int.mul_left_comm, Int.mul_comm]
  have e3 : 4294967296 * x1 * y0 = x1 * y0 * 4294967296 := by rw [Int.mul_assoc, Int.mul_comm]
  omega
theorem bound32 {x y : Int} (hx0 : 0 ≤ x) (hx : x ≤ 4294967295) (hy0 : 0 ≤ y) (hy : y ≤ 4294967295) : 0 ≤ x * y ∧ x * y ≤ 18446744065119617025 :=
  ⟨Int.mul_nonneg hx0 hy0, Int.le_trans (Int.mul_le_mul hx hy hy0 (by decide)) (by decide)⟩
theorem Mul64_is {x y : Int} (hx0 : 0 ≤ x) (hx : x < 18446744073709551616) (hy0 : 0 ≤ y) (hy : y < 18446744073709551616) :
    bits_Mul64.f x y = some (x * y / 18446744073709551616, x * y % 18446744073709551616) := by
  unfold bits_Mul64.f
  simp only [low32 hx0 hx, low32 hy0 hy]
  have hxy := halves x y
  have b11 := bound32 (x := x / 4294967296) (y := y / 4294967296) (by omega) (by omega) (by omega) (by omega)
  have b10 := bound32 (x := x / 4294967296) (y := y % 4294967296) (by omega) (by omega) (by omega) (by omega)
  have b01 := bound32 (x := x % 4294967296) (y := y / 4294967296) (by omega) (by omega) (by omega) (by omega)
  have b00 := bound32 (x := x % 4294967296) (y := y % 4294967296) (by omega) (by omega) (by omega) (by omega)
  generalize x / 4294967296 * (y / 4294967296) = s at *
  generalize x / 4294967296 * (y % 4294967296) = q at *
  generalize x % 4294967296 * (y / 4294967296) = r at *
  generalize x % 4294967296 * (y % 4294967296) = p at *
  generalize x * y = P at *
  clear hx0 hx hy0 hy
  have m32 : ∀ z : Int, 0 ≤ z → z < 18446744073709551616 → Go.bits .and .u64 z 4294967295 = z % 4294967296 := fun z h0 h1 => low32 h0 h1
  simp only [IntKind.wrap_u64]
  rw [m32 _ (by omega) (by omega)]
  simp only [Option.some.injEq, Prod.mk.injEq]
  have w1 : q % 18446744073709551616 = q := by omega
  have w2 : p % 18446744073709551616 = p := by omega
  have w3 : r % 18446744073709551616 = r := by omega
  have w4 : s % 18446744073709551616 = s := by omega
  have w5 : (q + p / 4294967296) % 18446744073709551616 = q + p / 4294967296 := by omega
  simp only [w1, w2, w3, w4, w5]
  have w6 : ((q + p / 4294967296) % 4294967296 + r) % 18446744073709551616 = (q + p / 4294967296) % 4294967296 + r := by omega
  rw [w6]
  have w7 : s * 18446744073709551616 ≤ P := by omega
  have hP : P / 18446744073709551616 = s + (q + p / 4294967296) / 4294967296 + ((q + p / 4294967296) % 4294967296 + r) / 4294967296 := by omega
  refine ⟨?_, trivial⟩
  omega
theorem Mul_is {a b : Int} (ha : -9223372036854775808 ≤ a ∧ a ≤ 9223372036854775807) (hb : -9223372036854775808 ≤ b ∧ b ≤ 9223372036854775807) : weigh_Mul.f a b = some (fit (a * b)) := by
  unfold weigh_Mul.f
  rw [size_is ha, size_is hb]
  simp only [Option.bind_some]
  rw [Mul64_is (by split <;> omega) (by split <;> omega) (by split <;> omega) (by split <;> omega)]
  simp only [Option.bind_some]
  have hab : a * b = if ((decide (a < 0)) != (decide (b < 0))) = true then -((if a < 0 then -a else a) * (if b < 0 then -b else b)) else (if a < 0 then -a else a) * (if b < 0 then -b else b) := by
    by_cases h1 : a < 0 <;> by_cases h2 : b < 0 <;> simp [h1, h2, Int.neg_mul, Int.mul_neg]
  have hP : 0 ≤ (if a < 0 then -a else a) * (if b < 0 then -b else b) := Int.mul_nonneg (by split <;> omega) (by split <;> omega)
  generalize (if a < 0 then -a else a) * (if b < 0 then -b else b) = P at *
  generalize a * b = m at *
  unfold fit wrap64
  by_cases hs : ((decide (a < 0)) != (decide (b < 0))) = true
  · rw [if_pos hs] at hab ⊢
    repeat' split
    all_goals first | rfl | (exfalso; omega) | (simp only [Option.some.injEq, Prod.mk.injEq, eq_self, and_true]; omega)
  · rw [if_neg hs] at hab ⊢
    repeat' split
    all_goals first | rfl | (exfalso; omega) | (simp only [Option.some.injEq, Prod.mk.injEq, eq_self, and_true]; omega)
theorem live_is : runnellaw06_live.f = some true := by
  unfold runnellaw06_live.f runnellaw06_code.f
  rw [Add_is (by omega) (by omega), Mul_is (by omega) (by omega), Mul_is (by omega) (by omega)]
  rfl
theorem WeighBack : runnellaw06_WeighBack.Pure := by
  intro a b ha hb
  have ha := wf64 ha
  have hb := wf64 hb
  refine ⟨5, ?_⟩
  unfold runnellaw06_WeighBack.f
  rw [Add_is ha hb, Add_is hb ha, Int.add_comm b a]
  simp only [Option.bind_some, runnellaw06_code.f, if_true, bne_self_eq_false, runnellaw06_WeighBack.j0, Bool.false_eq_true, if_false]
  by_cases hf : -9223372036854775808 ≤ a + b ∧ a + b ≤ 9223372036854775807
  · rw [fit_in hf]
    simp only [if_true]
    rw [Sub_is hf hb]
    have e : a + b - b = a := by omega
    rw [e, fit_in ha]
    have e2 : (decide (a + b ≥ a) == decide (b ≥ 0)) = true := by
      by_cases h : 0 ≤ b
      · have : a ≤ a + b := by omega
        simp only [ge_iff_le, h, this, decide_true, beq_self_eq_true]
      · have : ¬ a ≤ a + b := by omega
        simp only [ge_iff_le, h, this, decide_false, beq_self_eq_true]
    simp only [Option.bind_some, if_true, e2, live_is]
  · rw [fit_out hf]
    have e2 : (decide (a > 0) == decide (b > 0)) = true := by
      by_cases h : 0 < b
      · have : 0 < a := by omega
        simp [h, this]
      · have : ¬ 0 < a := by omega
        simp [h, this]
    have e60 : ¬ ((60 : Int) = 0) := by decide
    simp only [e60, if_false, if_true, e2, Option.bind_some, live_is]

end Go.Proofs.Ytamlfncglhoolaa.Pure
