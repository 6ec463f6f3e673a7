/- Sums and sums of products of any integers are the reference's, or its error. No condition beyond the statement's own. -/
import Derived.Test.YtamlfncglhoolaaQWeighSumsx3
namespace Go.Proofs.Ytamlfncglhoolaa.Pure
open Go.RowKit Go.Proofs.Ytamlfncglhoolaa.QWeighSums Go.Proofs.YtamlfncglhoolaaW.PrintWords Go.Proofs.YtamlfncglhoolaaW.PrintLast

/-- Both ends of what an int64 holds. -/
theorem wf64 {x : Int} (h : (Lit.int .i64 x).wf = true) : -9223372036854775808 ≤ x ∧ x ≤ 9223372036854775807 := by
  simp only [Lit.wf, IntKind.min, IntKind.max, IntKind.signed, IntKind.bits, Bool.and_eq_true, decide_eq_true_eq, if_true] at h
  omega
/-- What a sum, a difference, a product comes to: the number, where it fits; else the error 60. -/
def fit (s : Int) : Int × Int := if -9223372036854775808 ≤ s ∧ s ≤ 9223372036854775807 then (s, 0) else (0, 60)
theorem fit_in {s : Int} (h : -9223372036854775808 ≤ s ∧ s ≤ 9223372036854775807) : fit s = (s, 0) := if_pos h
theorem fit_out {s : Int} (h : ¬ (-9223372036854775808 ≤ s ∧ s ≤ 9223372036854775807)) : fit s = (0, 60) := if_neg h
theorem fit_1 (s : Int) : -9223372036854775808 ≤ (fit s).1 ∧ (fit s).1 ≤ 9223372036854775807 := by
  unfold fit; split <;> simp_all
theorem fit_2 (s : Int) : (fit s).2 = 0 ∨ (fit s).2 = 60 := by
  unfold fit; split <;> simp
theorem fit_ok {s : Int} (h : (fit s).2 = 0) : (-9223372036854775808 ≤ s ∧ s ≤ 9223372036854775807) ∧ (fit s).1 = s := by
  unfold fit at *; split <;> simp_all
theorem Add_is {a b : Int} (ha : -9223372036854775808 ≤ a ∧ a ≤ 9223372036854775807) (hb : -9223372036854775808 ≤ b ∧ b ≤ 9223372036854775807) : weigh_Add.f a b = some (fit (a + b)) := by
  unfold weigh_Add.f fit wrap64
  repeat' split
  all_goals first | rfl | (exfalso; omega) | (simp only [Option.some.injEq, Prod.mk.injEq, eq_self, and_true]; omega)
theorem size_is {a : Int} (ha : -9223372036854775808 ≤ a ∧ a ≤ 9223372036854775807) : weigh_size.f a = some (if a < 0 then -a else a) := by
  unfold weigh_size.f wrap64
  simp only [IntKind.wrap_u64]
  split <;> (simp only [Option.some.injEq]; omega)
theorem u64_stays (n : Int) (h0 : 0 ≤ n) (h1 : n < 2 ^ 64) : IntKind.u64.wrap n = n := by
  rw [IntKind.wrap_u64]; omega
theorem low32 {x : Int} (h0 : 0 ≤ x) (h1 : x < 18446744073709551616) : Go.bits .and .u64 x 4294967295 = x % 4294967296 :=
  bits_mask .u64 64 (by decide) u64_stays 32 (by decide) x h0 h1
theorem halves (x y : Int) : x * y = (x / 4294967296) * (y / 4294967296) * 18446744073709551616 + ((x / 4294967296) * (y % 4294967296) + (x % 4294967296) * (y / 4294967296)) * 4294967296 + (x % 4294967296) * (y % 4294967296) := by
  have hx : x = 4294967296 * (x / 4294967296) + x % 4294967296 := (Int.mul_ediv_add_emod x 4294967296).symm
  have hy : y = 4294967296 * (y / 4294967296) + y % 4294967296 := (Int.mul_ediv_add_emod y 4294967296).symm
  generalize x / 4294967296 = x1 at *
  generalize x % 4294967296 = x0 at *
  generalize y / 4294967296 = y1 at *
  generalize y % 4294967296 = y0 at *
  subst hx hy
  simp only [Int.mul_add, Int.add_mul]
  have e1 : 4294967296 * x1 * (4294967296 * y1) = x1 * y1 * 18446744073709551616 := by
    rw [Int.mul_assoc, Int.mul_left_comm x1, ← Int.mul_assoc, Int.mul_comm (x1 * y1)]; rfl
  have e2 : x0 * (4294967296 * y1) = x0 * y1 * 4294967296 := by rw [Int.mul_left_comm, Int.mul_comm]
  have e3 : 4294967296 * x1 * y0 = x1 * y0 * 4294967296 := by rw [Int.mul_assoc, Int.mul_comm]
  omega
theorem bound32 {x y : Int} (hx0 : 0 ≤ x) (hx : x ≤ 4294967295) (hy0 : 0 ≤ y) (hy : y ≤ 4294967295) : 0 ≤ x * y ∧ x * y ≤ 18446744065119617025 :=
  ⟨Int.mul_nonneg hx0 hy0, Int.le_trans (Int.mul_le_mul hx hy hy0 (by decide)) (by decide)⟩
theorem Mul64_is {x y : Int} (hx0 : 0 ≤ x) (hx : x < 18446744073709551616) (hy0 : 0 ≤ y) (hy : y < 18446744073709551616) :
    bits_Mul64.f x y = some (x * y / 18446744073709551616, x * y % 18446744073709551616) := by
  unfold bits_Mul64.f
  simp only [low32 hx0 hx, low32 hy0 hy]
  have hxy := halves x y
  have b11 := bound32 (x := x / 4294967296) (y := y / 4294967296) (by omega) (by omega) (by omega) (by omega)
  have b10 := bound32 (x := x / 4294967296) (y := y % 4294967296) (by omega) (by omega) (by omega) (by omega)
  have b01 := bound32 (x := x % 4294967296) (y := y / 4294967296) (by omega) (by omega) (by omega) (by omega)
  have b00 := bound32 (x := x % 4294967296) (y := y % 4294967296) (by omega) (by omega) (by omega) (by omega)
  generalize x / 4294967296 * (y / 4294967296) = s at *
  generalize x / 4294967296 * (y % 4294967296) = q at *
  generalize x % 4294967296 * (y / 4294967296) = r at *
  generalize x % 4294967296 * (y % 4294967296) = p at *
  generalize x * y = P at *
  clear hx0 hx hy0 hy
  have m32 : ∀ z : Int, 0 ≤ z → z < 18446744073709551616 → Go.bits .and .u64 z 4294967295 = z % 4294967296 := fun z h0 h1 => low32 h0 h1
  simp only [IntKind.wrap_u64]
  rw [m32 _ (by omega) (by omega)]
  simp only [Option.some.injEq, Prod.mk.injEq]
  have w1 : q % 18446744073709551616 = q := by omega
  have w2 : p % 18446744073709551616 = p := by omega
  have w3 : r % 18446744073709551616 = r := by omega
  have w4 : s % 18446744073709551616 = s := by omega
  have w5 : (q + p / 4294967296) % 18446744073709551616 = q + p / 4294967296 := by omega
  simp only [w1, w2, w3, w4, w5]
  have w6 : ((q + p / 4294967296) % 4294967296 + r) % 18446744073709551616 = (q + p / 4294967296) % 4294967296 + r := by omega
  rw [w6]
  have w7 : s * 18446744073709551616 ≤ P := by omega
  have hP : P / 18446744073709551616 = s + (q + p / 4294967296) / 4294967296 + ((q + p / 4294967296) % 4294967296 + r) / 4294967296 := by omega
  refine ⟨?_, trivial⟩
  omega
theorem Mul_is {a b : Int} (ha : -9223372036854775808 ≤ a ∧ a ≤ 9223372036854775807) (hb : -9223372036854775808 ≤ b ∧ b ≤ 9223372036854775807) : weigh_Mul.f a b = some (fit (a * b)) := by
  unfold weigh_Mul.f
  rw [size_is ha, size_is hb]
  simp only [Option.bind_some]
  rw [Mul64_is (by split <;> omega) (by split <;> omega) (by split <;> omega) (by split <;> omega)]
  simp only [Option.bind_some]
  have hab : a * b = if ((decide (a < 0)) != (decide (b < 0))) = true then -((if a < 0 then -a else a) * (if b < 0 then -b else b)) else (if a < 0 then -a else a) * (if b < 0 then -b else b) := by
    by_cases h1 : a < 0 <;> by_cases h2 : b < 0 <;> simp [h1, h2, Int.neg_mul, Int.mul_neg]
  have hP : 0 ≤ (if a < 0 then -a else a) * (if b < 0 then -b else b) := Int.mul_nonneg (by split <;> omega) (by split <;> omega)
  generalize (if a < 0 then -a else a) * (if b < 0 then -b else b) = P at *
  generalize a * b = m at *
  unfold fit wrap64
  by_cases hs : ((decide (a < 0)) != (decide (b < 0))) = true
  · rw [if_pos hs] at hab ⊢
    repeat' split
    all_goals first | rfl | (exfalso; omega) | (simp only [Option.some.injEq, Prod.mk.injEq, eq_self, and_true]; omega)
  · rw [if_neg hs] at hab ⊢
    repeat' split
    all_goals first | rfl | (exfalso; omega) | (simp only [Option.some.injEq, Prod.mk.injEq, eq_self, and_true]; omega)
theorem live_is : runnellaw06_live.f = some true := by
  unfold runnellaw06_live.f runnellaw06_code.f
  rw [Add_is (by omega) (by omega), Mul_is (by omega) (by omega), Mul_is (by omega) (by omega)]
  rfl
theorem wide_is (a : Int) : runnelref06_wide.f a = some ((a % 18446744073709551616) / 4294967296, a % 4294967296) := by
  unfold runnelref06_wide.f wrap64
  simp only [IntKind.wrap_u64]
  rw [Int.tmod_eq_emod_of_nonneg (by omega), Int.tdiv_eq_ediv_of_nonneg (by omega)]
  simp only [Option.some.injEq, Prod.mk.injEq]
  omega
theorem signed_is {a : Int} (ha : -9223372036854775808 ≤ a ∧ a ≤ 9223372036854775807) : runnelref06_signed.f a = some (a / 4294967296, a % 4294967296) := by
  unfold runnelref06_signed.f
  rw [wide_is a]
  simp only [Option.bind_some]
  unfold wrap64
  split <;> (simp only [Option.some.injEq, Prod.mk.injEq, eq_self, and_true]; omega)
theorem narrow_is {h l : Int} (h0 : 0 ≤ l) (h1 : l < 4294967296) : runnelref06_narrow.f h l = some (fit (h * 4294967296 + l)) := by
  unfold runnelref06_narrow.f fit wrap64
  repeat' split
  all_goals first | rfl | (exfalso; omega) | (simp only [Option.some.injEq, Prod.mk.injEq, eq_self, and_true]; omega)
theorem RSub_is {a b : Int} (ha : -9223372036854775808 ≤ a ∧ a ≤ 9223372036854775807) (hb : -9223372036854775808 ≤ b ∧ b ≤ 9223372036854775807) : runnelref06_Sub.f a b = some (fit (a - b)) := by
  unfold runnelref06_Sub.f
  rw [signed_is ha, signed_is hb]
  simp only [Option.bind_some]
  have e2 : wrap64 (a % 4294967296 - b % 4294967296) = a % 4294967296 - b % 4294967296 := by unfold wrap64; omega
  have e1 : wrap64 (a / 4294967296 - b / 4294967296) = a / 4294967296 - b / 4294967296 := by unfold wrap64; omega
  rw [e1, e2]
  split
  · have e3 : wrap64 (a % 4294967296 - b % 4294967296 + 4294967296) = a % 4294967296 - b % 4294967296 + 4294967296 := by unfold wrap64; omega
    have e4 : wrap64 (a / 4294967296 - b / 4294967296 - 1) = a / 4294967296 - b / 4294967296 - 1 := by unfold wrap64; omega
    rw [e3, e4, narrow_is (by omega) (by omega)]
    simp only [Option.bind_some]
    rw [show (a / 4294967296 - b / 4294967296 - 1) * 4294967296 + (a % 4294967296 - b % 4294967296 + 4294967296) = a - b from by omega]
  · rw [narrow_is (by omega) (by omega)]
    simp only [Option.bind_some]
    rw [show (a / 4294967296 - b / 4294967296) * 4294967296 + (a % 4294967296 - b % 4294967296) = a - b from by omega]
theorem RAdd_is {a b : Int} (ha : -9223372036854775808 ≤ a ∧ a ≤ 9223372036854775807) (hb : -9223372036854775808 ≤ b ∧ b ≤ 9223372036854775807) : runnelref06_Add.f a b = some (fit (a + b)) := by
  unfold runnelref06_Add.f
  rw [signed_is ha, signed_is hb]
  simp only [Option.bind_some]
  have e2 : wrap64 (a % 4294967296 + b % 4294967296) = a % 4294967296 + b % 4294967296 := by unfold wrap64; omega
  rw [e2, Int.tmod_eq_emod_of_nonneg (by omega), Int.tdiv_eq_ediv_of_nonneg (by omega)]
  have e3 : wrap64 (wrap64 (a / 4294967296 + b / 4294967296) + wrap64 ((a % 4294967296 + b % 4294967296) / 4294967296)) = a / 4294967296 + b / 4294967296 + (a % 4294967296 + b % 4294967296) / 4294967296 := by unfold wrap64; omega
  rw [e3, narrow_is (by omega) (by omega)]
  simp only [Option.bind_some]
  rw [show (a / 4294967296 + b / 4294967296 + (a % 4294967296 + b % 4294967296) / 4294967296) * 4294967296 + (a % 4294967296 + b % 4294967296) % 4294967296 = a + b from by omega]
theorem quotient_in {p b : Int} (hp : -9223372036854775808 ≤ p ∧ p ≤ 9223372036854775807) (hb1 : b ≠ 0) (hb2 : b ≠ -1) : -9223372036854775808 ≤ Int.tdiv p b ∧ Int.tdiv p b ≤ 9223372036854775807 := by
  have h := Int.natAbs_tdiv p b
  by_cases h1 : b = 1
  · subst h1; rw [Int.tdiv_one]; exact hp
  · have h2 : 2 ≤ b.natAbs := by omega
    have h3 : (Int.tdiv p b).natAbs ≤ p.natAbs / 2 := by rw [h]; exact Nat.div_le_div_left h2 (by decide)
    clear h
    generalize Int.tdiv p b = q at *
    omega
theorem RMul_is (k : Nat) {a b : Int} (ha : -9223372036854775808 ≤ a ∧ a ≤ 9223372036854775807) (hb : -9223372036854775808 ≤ b ∧ b ≤ 9223372036854775807) : runnelref06_Mul.f (k + 2) a b = some (fit (a * b)) := by
  unfold runnelref06_Mul.f
  by_cases a0 : a = 0
  · subst a0
    rw [if_pos rfl]; simp only [runnelref06_Mul.j0, if_true, Int.zero_mul]; rfl
  rw [if_neg a0]
  by_cases b0 : b = 0
  · subst b0
    simp only [runnelref06_Mul.j0, Int.mul_zero]; rfl
  have b0' : (b == 0) = false := beq_eq_false_iff_ne.mpr b0
  rw [b0']
  simp only [runnelref06_Mul.j0, Bool.false_eq_true, if_false]
  by_cases a1 : a = -1
  · subst a1
    rw [if_pos rfl]
    simp only [runnelref06_Mul.j1, if_true]
    have e0 : wrap64 (- -1) = 1 := by unfold wrap64; omega
    have e : wrap64 (wrap64 (- -1) * b) = b := by rw [e0, Int.one_mul]; unfold wrap64; omega
    rw [e, RSub_is (by omega) hb]
    simp only [Option.bind_some]
    rw [show (0 : Int) - b = -1 * b from by omega]
  rw [if_neg a1]
  by_cases b1 : b = -1
  · subst b1
    simp only [runnelref06_Mul.j1, beq_self_eq_true, if_true]
    by_cases am : a = -9223372036854775808
    · subst am
      have e : wrap64 (wrap64 (- -9223372036854775808) * -1) = -9223372036854775808 := by unfold wrap64; omega
      rw [e, RSub_is (by omega) (by omega)]
      rfl
    · have e : wrap64 (wrap64 (-a) * -1) = a := by unfold wrap64; omega
      rw [e, RSub_is (by omega) ha]
      simp only [Option.bind_some]
      rw [show (0 : Int) - a = a * -1 from by omega]
  have b1' : (b == -1) = false := beq_eq_false_iff_ne.mpr b1
  rw [b1']
  simp only [runnelref06_Mul.j1, Bool.false_eq_true, if_false]
  rw [if_neg b0]
  by_cases hf : -9223372036854775808 ≤ a * b ∧ a * b ≤ 9223372036854775807
  · have e : wrap64 (a * b) = a * b := by generalize a * b = m at *; unfold wrap64; omega
    have e2 : wrap64 a = a := by unfold wrap64; omega
    rw [e, Int.mul_tdiv_cancel a b0, e2, if_pos rfl, fit_in hf]
    have hsg : ((decide (a * b < 0)) != ((decide (a < 0)) != (decide (b < 0)))) = false := by
      by_cases h1 : a < 0 <;> by_cases h2 : b < 0
      · have := Int.mul_pos_of_neg_of_neg h1 h2
        simp [h1, h2]; omega
      · have := Int.mul_neg_of_neg_of_pos h1 (show 0 < b by omega)
        simp [h1, h2, this]
      · have := Int.mul_neg_of_pos_of_neg (show 0 < a by omega) h2
        simp [h1, h2, this]
      · have := Int.mul_pos (show 0 < a by omega) (show 0 < b by omega)
        simp [h1, h2]; omega
    rw [hsg]; rfl
  · rw [fit_out hf, if_neg]
    have hw : -9223372036854775808 ≤ wrap64 (a * b) ∧ wrap64 (a * b) ≤ 9223372036854775807 := by generalize a * b = m at *; unfold wrap64; omega
    have hc : ∃ c : Int, wrap64 (a * b) = a * b - c * 18446744073709551616 := by
      refine ⟨(a * b + 9223372036854775808) / 18446744073709551616, ?_⟩
      generalize a * b = m at *; unfold wrap64; omega
    generalize wrap64 (a * b) = p at *
    have hq := quotient_in hw b0 b1
    have e2 : wrap64 (Int.tdiv p b) = Int.tdiv p b := by generalize Int.tdiv p b = q at *; unfold wrap64; omega
    rw [e2]
    intro hqa
    have hm := Int.mul_tdiv_add_tmod p b
    have hr := Int.natAbs_tmod p b
    have hl : p.natAbs % b.natAbs < b.natAbs := Nat.mod_lt _ (by omega)
    rw [hqa, Int.mul_comm b a] at hm
    generalize a * b = m at *
    generalize Int.tmod p b = t at *
    obtain ⟨c, hc⟩ := hc
    omega
theorem rd_of {xs : List Int} (h : ∀ x ∈ xs, (Lit.int .i64 x).wf = true) {i : Int} (h0 : 0 ≤ i) (h1 : i < (xs.length : Int)) : -9223372036854775808 ≤ rd xs i ∧ rd xs i ≤ 9223372036854775807 := by
  unfold rd
  have hl : i.toNat < xs.length := by omega
  rw [List.getD_eq_getElem?_getD, List.getElem?_eq_getElem hl, Option.getD_some]
  exact wf64 (h _ (List.getElem_mem hl))
theorem wrap_next {i : Int} {n : Nat} (h0 : 0 ≤ i) (h : i < (n : Int)) (hn : (n : Int) ≤ 9223372036854775807) : wrap64 (i + 1) = i + 1 := by
  unfold wrap64; omega
/-- Sums, round by round: both come to one answer. -/
theorem sums_both (xs : List Int) (h : ∀ x ∈ xs, (Lit.int .i64 x).wf = true) (hn : (xs.length : Int) ≤ 1000) (d : Nat) : ∀ (k : Nat) (i n : Int), 0 ≤ i → i ≤ xs.length → (xs.length : Int) - i = d → d < k → (-9223372036854775808 ≤ n ∧ n ≤ 9223372036854775807) →
    ∃ r, weigh_sum.l0 k n xs (xs.length : Int) i = some r ∧ runnelref06_Sum.l0 k xs n i = some r := by
  induction d with
  | zero =>
    intro k i n h0 h1 hd hk hb
    obtain ⟨k, rfl⟩ : ∃ m, k = m + 1 := ⟨k - 1, by omega⟩
    refine ⟨(n, 0), ?_, ?_⟩
    · simp only [weigh_sum.l0]; rw [if_neg (by omega)]
    · simp only [runnelref06_Sum.l0]; rw [if_neg (by omega)]
  | succ d ih =>
    intro k i n h0 h1 hd hk hb
    obtain ⟨k, rfl⟩ : ∃ m, k = m + 1 := ⟨k - 1, by omega⟩
    have hlt : i < (xs.length : Int) := by omega
    have hr := rd_of h h0 hlt
    by_cases e : (fit (n + rd xs i)).2 = 0
    · obtain ⟨r, h1, h2⟩ := ih k (i + 1) (fit (n + rd xs i)).1 (by omega) (by omega) (by omega) (by omega) (fit_1 _)
      refine ⟨r, ?_, ?_⟩
      · simp only [weigh_sum.l0]; rw [if_pos hlt, if_pos h0, if_pos hlt, Add_is hb hr]; simp only [Option.bind_some]; rw [if_pos e, wrap_next h0 hlt (by omega)]; exact h1
      · simp only [runnelref06_Sum.l0]; rw [if_pos hlt, if_pos h0, RAdd_is hb hr]; simp only [Option.bind_some]; rw [if_pos e, wrap_next h0 hlt (by omega)]; exact h2
    · refine ⟨(0, (fit (n + rd xs i)).2), ?_, ?_⟩
      · simp only [weigh_sum.l0]; rw [if_pos hlt, if_pos h0, if_pos hlt, Add_is hb hr]; simp only [Option.bind_some]; rw [if_neg e]
      · simp only [runnelref06_Sum.l0]; rw [if_pos hlt, if_pos h0, RAdd_is hb hr]; simp only [Option.bind_some]; rw [if_neg e]
theorem dots_both (xs ys : List Int) (h : ∀ x ∈ xs, (Lit.int .i64 x).wf = true) (g : ∀ x ∈ ys, (Lit.int .i64 x).wf = true) (hl : xs.length = ys.length) (hn : (xs.length : Int) ≤ 1000) (d : Nat) : ∀ (k : Nat) (i n : Int), 0 ≤ i → i ≤ xs.length → (xs.length : Int) - i = d → d + 2 < k → (-9223372036854775808 ≤ n ∧ n ≤ 9223372036854775807) →
    ∃ r, weigh_Dot.l0 k ys n xs (xs.length : Int) i = some r ∧ runnelref06_Dot.l0 k xs ys n i = some r := by
  induction d with
  | zero =>
    intro k i n h0 h1 hd hk hb
    obtain ⟨k, rfl⟩ : ∃ m, k = m + 1 := ⟨k - 1, by omega⟩
    refine ⟨(n, 0), ?_, ?_⟩
    · simp only [weigh_Dot.l0]; rw [if_neg (by omega)]
    · simp only [runnelref06_Dot.l0]; rw [if_neg (by omega)]
  | succ d ih =>
    intro k i n h0 h1 hd hk hb
    obtain ⟨k, rfl⟩ : ∃ m, k = m + 3 := ⟨k - 3, by omega⟩
    have hlt : i < (xs.length : Int) := by omega
    have hlt2 : i < (ys.length : Int) := by omega
    have hr := rd_of h h0 hlt
    have hs := rd_of g h0 hlt2
    by_cases e : (fit (rd xs i * rd ys i)).2 = 0
    · have hp := fit_1 (rd xs i * rd ys i)
      by_cases f : (fit (n + (fit (rd xs i * rd ys i)).1)).2 = 0
      · obtain ⟨r, h1, h2⟩ := ih (k + 2) (i + 1) (fit (n + (fit (rd xs i * rd ys i)).1)).1 (by omega) (by omega) (by omega) (by omega) (fit_1 _)
        refine ⟨r, ?_, ?_⟩
        · simp only [weigh_Dot.l0]; rw [if_pos hlt, if_pos h0, if_pos hlt, if_pos hlt2, Mul_is hr hs]; simp only [Option.bind_some]; rw [if_pos e, Add_is hb hp]; simp only [Option.bind_some]; rw [if_pos f, wrap_next h0 hlt (by omega)]; exact h1
        · simp only [runnelref06_Dot.l0]; rw [if_pos hlt, if_pos h0, if_pos hlt2, RMul_is k hr hs]; simp only [Option.bind_some]; rw [if_pos e, RAdd_is hb hp]; simp only [Option.bind_some]; rw [if_pos f, wrap_next h0 hlt (by omega)]; exact h2
      · refine ⟨(0, (fit (n + (fit (rd xs i * rd ys i)).1)).2), ?_, ?_⟩
        · simp only [weigh_Dot.l0]; rw [if_pos hlt, if_pos h0, if_pos hlt, if_pos hlt2, Mul_is hr hs]; simp only [Option.bind_some]; rw [if_pos e, Add_is hb hp]; simp only [Option.bind_some]; rw [if_neg f]
        · simp only [runnelref06_Dot.l0]; rw [if_pos hlt, if_pos h0, if_pos hlt2, RMul_is k hr hs]; simp only [Option.bind_some]; rw [if_pos e, RAdd_is hb hp]; simp only [Option.bind_some]; rw [if_neg f]
    · refine ⟨(0, (fit (rd xs i * rd ys i)).2), ?_, ?_⟩
      · simp only [weigh_Dot.l0]; rw [if_pos hlt, if_pos h0, if_pos hlt, if_pos hlt2, Mul_is hr hs]; simp only [Option.bind_some]; rw [if_neg e]
      · simp only [runnelref06_Dot.l0]; rw [if_pos hlt, if_pos h0, if_pos hlt2, RMul_is k hr hs]; simp only [Option.bind_some]; rw [if_neg e]
theorem WeighSums : runnellaw06_WeighSums.Pure := by
  intro xs ys _ _ hx _ _ hy
  refine ⟨1010, ?_⟩
  unfold runnellaw06_WeighSums.f
  by_cases c1 : (xs.length : Int) > 1000
  · rw [if_pos c1]; simp only [runnellaw06_WeighSums.j0, if_true, live_is, Option.bind_some]
  rw [if_neg c1]
  by_cases c2 : (ys.length : Int) > 1000
  · simp only [runnellaw06_WeighSums.j0, c2, decide_true, if_true, live_is, Option.bind_some]
  simp only [runnellaw06_WeighSums.j0, c2, decide_false, Bool.false_eq_true, if_false]
  obtain ⟨r, h1, h2⟩ := sums_both xs hx (by omega) xs.length 1009 0 0 (by omega) (by omega) (by omega) (by omega) (by omega)
  have e1 : weigh_Sum.f 1009 xs = some r := by unfold weigh_Sum.f weigh_sum.f; rw [h1]; rfl
  have e2 : runnelref06_Sum.f 1009 xs = some r := h2
  rw [e1, e2]
  simp only [Option.bind_some]
  have hd : ∃ q, weigh_Dot.f 1009 xs ys = some q ∧ runnelref06_Dot.f 1009 xs ys = some q := by
    unfold weigh_Dot.f runnelref06_Dot.f
    by_cases hl : (xs.length : Int) = (ys.length : Int)
    · rw [if_pos hl, if_pos hl]
      exact dots_both xs ys hx hy (by omega) (by omega) xs.length 1009 0 0 (by omega) (by omega) (by omega) (by omega) (by omega)
    · rw [if_neg hl, if_neg hl]; exact ⟨_, rfl, rfl⟩
  obtain ⟨q, h3, h4⟩ := hd
  rw [h3, h4]
  simp only [Option.bind_some, if_true, runnellaw06_code.f, live_is]

end Go.Proofs.Ytamlfncglhoolaa.Pure
