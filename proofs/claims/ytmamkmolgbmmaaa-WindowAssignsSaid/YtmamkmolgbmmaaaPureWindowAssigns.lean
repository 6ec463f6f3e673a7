/- Any row goes to the windows that the reference tells, and stays. No condition beyond the statement's own. -/
import Derived.Test.YtmamkmolgbmmaaaQWindowAssignsx8
namespace Go.Proofs.Ytmamkmolgbmmaaa.Pure
open Go.RowKit Go.Proofs.Ytmamkmolgbmmaaa.QWindowAssigns Go.Proofs.YtmamkmolgbmmaaaW.PrintWords Go.Proofs.YtmamkmolgbmmaaaW.PrintLast

theorem w64 {x : Int} (h : -9223372036854775808 ≤ x ∧ x ≤ 9223372036854775807) : wrap64 x = x := by unfold wrap64; omega
/-- Never as a hypothesis: omega runs away over two of them. -/
theorem wnext (i : Nat) (h : i ≤ 1000000) : wrap64 ((i : Int) + 1) = ((i + 1 : Nat) : Int) := by rw [w64 (by omega)]; rfl
theorem wf64 {x : Int} (h : (Lit.int .i64 x).wf = true) : -9223372036854775808 ≤ x ∧ x ≤ 9223372036854775807 := by
  simp only [Lit.wf, IntKind.min, IntKind.max, IntKind.signed, IntKind.bits, Bool.and_eq_true, decide_eq_true_eq, if_true] at h
  omega
/-- May there be such windows: the error. -/
def chk (size slide : Int) : Int := if 1 ≤ size ∧ size ≤ 1099511627776 ∧ 1 ≤ slide ∧ slide ≤ 1099511627776 then (if size > 64 * slide then 3 else 0) else 1
/-- The multiple that is not above, or the error. -/
def flr (v slide : Int) : Int × Int := if 1 ≤ slide ∧ slide ≤ 1099511627776 then (if -1152921504606846976 ≤ v ∧ v ≤ 1152921504606846976 then (v / slide * slide, 0) else (0, 60)) else (0, 1)
theorem between_is (a b c : Int) : window_between_int.f a b c = some (decide (b ≤ a ∧ a ≤ c)) := by
  unfold window_between_int.f
  by_cases h : b ≤ a
  · rw [if_pos h]; simp [h]
  · rw [if_neg h]; simp [h]
theorem Check_is (k : Nat) (size slide : Int) : window_Check.f (k + 1) size slide = some (chk size slide) := by
  unfold window_Check.f chk
  simp only [between_is, Option.bind_some, decide_eq_true_eq]
  by_cases h1 : 1 ≤ size ∧ size ≤ 1099511627776
  · rw [if_pos h1]
    by_cases h2 : 1 ≤ slide ∧ slide ≤ 1099511627776
    · have e : wrap64 (64 * slide) = 64 * slide := by unfold wrap64; omega
      simp only [window_Check.j0, h1, h2, and_self, decide_true, Bool.not_true, Bool.false_eq_true, if_false, if_true, e]
      split <;> rfl
    · have h3 : ¬ (1 ≤ size ∧ size ≤ 1099511627776 ∧ 1 ≤ slide ∧ slide ≤ 1099511627776) := by omega
      rw [if_neg h3]
      simp only [window_Check.j0, h2, decide_false, Bool.not_false, if_true]
  · have h3 : ¬ (1 ≤ size ∧ size ≤ 1099511627776 ∧ 1 ≤ slide ∧ slide ≤ 1099511627776) := by omega
    rw [if_neg h1, if_neg h3]
    simp only [window_Check.j0, if_true]
theorem floor_lt {v slide : Int} (h : 1 ≤ slide) : v / slide * slide ≤ v ∧ v < v / slide * slide + slide ∧ v / slide * slide = v - v % slide ∧ 0 ≤ v % slide ∧ v % slide < slide := by
  have h1 := Int.mul_ediv_add_emod v slide
  have h2 := Int.emod_nonneg v (show slide ≠ 0 by omega)
  have h3 := Int.emod_lt_of_pos v (show 0 < slide by omega)
  rw [Int.mul_comm] at h1
  generalize v / slide * slide = q at *
  omega
theorem tmod_of {v slide : Int} (h : 1 ≤ slide) : (0 ≤ v → Int.tmod v slide = v % slide) ∧ (v < 0 → (v % slide = 0 ∧ Int.tmod v slide = 0 ∨ 0 < v % slide ∧ Int.tmod v slide = v % slide - slide)) := by
  refine ⟨fun h0 => Int.tmod_eq_emod_of_nonneg h0, fun h0 => ?_⟩
  have e := Int.emod_eq_tmod (a := v) (b := slide)
  have h2 := Int.emod_nonneg v (show slide ≠ 0 by omega)
  have h3 := Int.emod_lt_of_pos v (show 0 < slide by omega)
  by_cases hd : slide ∣ v
  · have a := Int.emod_eq_zero_of_dvd hd
    have b := Int.tmod_eq_zero_of_dvd hd
    exact .inl ⟨a, b⟩
  · have hc : ¬ (0 ≤ v ∨ slide ∣ v) := by
      rintro (h | h)
      · omega
      · exact hd h
    rw [if_neg hc] at e
    have hn : v % slide ≠ 0 := fun h => hd (Int.dvd_of_emod_eq_zero h)
    omega
theorem Floor_is (v slide : Int) : window_Floor.f v slide = some (flr v slide) := by
  unfold window_Floor.f flr
  simp only [between_is, Option.bind_some, decide_eq_true_eq]
  by_cases h1 : 1 ≤ slide ∧ slide ≤ 1099511627776
  · rw [if_pos h1, if_pos h1]
    by_cases h2 : -1152921504606846976 ≤ v ∧ v ≤ 1152921504606846976
    · rw [if_pos h2, if_pos h2, if_neg (by omega)]
      obtain ⟨t1, t2⟩ := tmod_of (v := v) h1.1
      obtain ⟨f1, f2, f3, f4, f5⟩ := floor_lt (v := v) h1.1
      rw [f3]
      generalize Int.tmod v slide = t at *
      generalize v % slide = m at *
      clear f1 f2 f3
      unfold wrap64
      split <;> (simp only [Option.some.injEq, Prod.mk.injEq, eq_self, and_true]; omega)
    · rw [if_neg h2, if_neg h2]
  · rw [if_neg h1, if_neg h1]
theorem RCheck_is (k : Nat) (size slide : Int) : runnelref14_Check.f (k + 1) size slide = some (chk size slide) := by
  unfold runnelref14_Check.f chk
  by_cases h1 : size < 1
  · have h3 : ¬ (1 ≤ size ∧ size ≤ 1099511627776 ∧ 1 ≤ slide ∧ slide ≤ 1099511627776) := by omega
    rw [if_pos h1, if_neg h3]; simp only [runnelref14_Check.j0, if_true]
  rw [if_neg h1]
  by_cases h2 : size > 1099511627776
  · have h3 : ¬ (1 ≤ size ∧ size ≤ 1099511627776 ∧ 1 ≤ slide ∧ slide ≤ 1099511627776) := by omega
    rw [if_pos h2, if_neg h3]; simp only [runnelref14_Check.j0, if_true]
  rw [if_neg h2]
  by_cases h4 : slide < 1
  · have h3 : ¬ (1 ≤ size ∧ size ≤ 1099511627776 ∧ 1 ≤ slide ∧ slide ≤ 1099511627776) := by omega
    rw [if_pos h4, if_neg h3]; simp only [runnelref14_Check.j0, if_true]
  rw [if_neg h4]
  by_cases h5 : slide > 1099511627776
  · have h3 : ¬ (1 ≤ size ∧ size ≤ 1099511627776 ∧ 1 ≤ slide ∧ slide ≤ 1099511627776) := by omega
    rw [if_neg h3]; simp only [runnelref14_Check.j0, h5, decide_true, if_true]
  · have h3 : 1 ≤ size ∧ size ≤ 1099511627776 ∧ 1 ≤ slide ∧ slide ≤ 1099511627776 := by omega
    have e : wrap64 (64 * slide) = 64 * slide := by unfold wrap64; omega
    rw [if_pos h3]; simp only [runnelref14_Check.j0, h5, decide_false, Bool.false_eq_true, if_false, e]
    split <;> rfl
theorem RFloor_is (k : Nat) (v slide : Int) : runnelref14_Floor.f (k + 2) v slide = some (flr v slide) := by
  unfold runnelref14_Floor.f flr
  by_cases h1 : slide < 1
  · rw [if_pos h1, if_neg (by omega)]; simp only [runnelref14_Floor.j0, if_true]
  rw [if_neg h1]
  by_cases h2 : slide > 1099511627776
  · rw [if_neg (by omega)]; simp only [runnelref14_Floor.j0, h2, decide_true, if_true]
  have h3 : 1 ≤ slide ∧ slide ≤ 1099511627776 := by omega
  rw [if_pos h3]
  simp only [runnelref14_Floor.j0, h2, decide_false, Bool.false_eq_true, if_false]
  by_cases h4 : v < -1152921504606846976
  · rw [if_pos h4, if_neg (by omega)]; simp only [runnelref14_Floor.j1, if_true]
  rw [if_neg h4]
  by_cases h5 : v > 1152921504606846976
  · rw [if_neg (by omega)]; simp only [runnelref14_Floor.j1, h5, decide_true, if_true]
  rw [if_pos (by omega)]
  simp only [runnelref14_Floor.j1, h5, decide_false, Bool.false_eq_true, if_false]
  rw [if_neg (by omega)]
  obtain ⟨f1, f2, f3, f4, f5⟩ := floor_lt (v := v) h3.1
  obtain ⟨t1, t2⟩ := tmod_of (v := v) h3.1
  have ht := Int.mul_tdiv_add_tmod v slide
  rw [Int.mul_comm] at ht
  have hq : -1152921504606846976 ≤ Int.tdiv v slide ∧ Int.tdiv v slide ≤ 1152921504606846976 := by
    have h := Int.natAbs_tdiv v slide
    have h6 : (Int.tdiv v slide).natAbs ≤ v.natAbs := by rw [h]; exact Nat.div_le_self _ _
    clear h ht
    generalize Int.tdiv v slide = q at *
    omega
  have e1 : wrap64 (Int.tdiv v slide) = Int.tdiv v slide := by clear ht; generalize Int.tdiv v slide = q at *; unfold wrap64; omega
  have e5 : (Int.tdiv v slide - 1) * slide = Int.tdiv v slide * slide - slide := by rw [Int.sub_mul, Int.one_mul]
  rw [e1, f3]
  have e2 : wrap64 (Int.tdiv v slide - 1) = Int.tdiv v slide - 1 := by clear ht e5; generalize Int.tdiv v slide = q at *; unfold wrap64; omega
  rw [e2, e5]
  generalize Int.tdiv v slide * slide = p at *
  generalize Int.tmod v slide = t at *
  generalize v % slide = m at *
  clear f1 f2 f3 e1 e2 e5
  unfold wrap64
  split <;> (simp only [Option.some.injEq, Prod.mk.injEq, eq_self, and_true]; omega)
theorem rd_some {xs : List Int} {i : Nat} (h : i < xs.length) : xs[i]? = some (rd xs (i : Int)) := by
  unfold rd
  rw [Int.toNat_natCast, List.getD_eq_getElem?_getD, List.getElem?_eq_getElem h, Option.getD_some]
/-- slices.Reverse, from a place on: what lies between the two places is turned. -/
theorem rev_from (n : Nat) (hn : (n : Int) ≤ 4611686018427387904) (d : Nat) : ∀ (k : Nat) (xs : List Int) (i j : Int), xs.length = n → 0 ≤ i → i + j = n - 1 → j - i < d → d < k →
    ∃ ys, slices_Reverse_int_int.l0 k xs i j = some ys ∧ ys.length = n ∧ ∀ p : Nat, p < n → ys[p]? = if i ≤ p ∧ (p : Int) ≤ j then xs[n - 1 - p]? else xs[p]? := by
  induction d with
  | zero =>
    intro k xs i j hl h0 hs hd hk
    obtain ⟨k, rfl⟩ : ∃ m, k = m + 1 := ⟨k - 1, by omega⟩
    refine ⟨xs, ?_, hl, fun p hp => ?_⟩
    · simp only [slices_Reverse_int_int.l0]; rw [if_neg (by omega)]
    · rw [if_neg (by omega)]
  | succ d ih =>
    intro k xs i j hl h0 hs hd hk
    obtain ⟨k, rfl⟩ : ∃ m, k = m + 1 := ⟨k - 1, by omega⟩
    by_cases hij : i < j
    · obtain ⟨a, rfl⟩ := Int.eq_ofNat_of_zero_le h0
      obtain ⟨b, rfl⟩ := Int.eq_ofNat_of_zero_le (show 0 ≤ j by omega)
      have hxa := rd_some (xs := xs) (i := a) (by omega)
      have hxb := rd_some (xs := xs) (i := b) (by omega)
      obtain ⟨ys, h1, h2, h3⟩ := ih k ((xs.set ((a : Int)).toNat (rd xs b)).set ((b : Int)).toNat (rd xs a)) (a + 1) (b - 1) (by simp [hl]) (by omega) (by omega) (by omega) (by omega)
      refine ⟨ys, ?_, h2, fun p hp => ?_⟩
      · simp only [slices_Reverse_int_int.l0]
        rw [if_pos hij, if_pos (by omega), if_pos (by omega), if_pos (by omega), if_pos (by omega)]
        have e1 : wrap64 ((a : Int) + 1) = a + 1 := by unfold wrap64; omega
        have e2 : wrap64 ((b : Int) - 1) = b - 1 := by unfold wrap64; omega
        rw [e1, e2]; exact h1
      · rw [h3 p hp]
        simp only [Int.toNat_natCast, List.getElem?_set, List.length_set]
        by_cases c1 : (a : Int) + 1 ≤ p ∧ (p : Int) ≤ b - 1
        · rw [if_pos c1, if_neg (by omega), if_neg (by omega), if_pos (by omega)]
        · rw [if_neg c1]
          by_cases c2 : b = p
          · subst c2
            rw [if_pos rfl, if_pos (by omega), if_pos (by omega), show n - 1 - b = a from by omega, hxa]
          · rw [if_neg c2]
            by_cases c3 : a = p
            · subst c3
              rw [if_pos rfl, if_pos (by omega), if_pos (by omega), show n - 1 - a = b from by omega, hxb]
            · rw [if_neg c3, if_neg (by omega)]
    · refine ⟨xs, ?_, hl, fun p hp => ?_⟩
      · simp only [slices_Reverse_int_int.l0]; rw [if_neg hij]
      · by_cases c : i ≤ p ∧ (p : Int) ≤ j
        · rw [if_pos c, show n - 1 - p = p from by omega]
        · rw [if_neg c]
theorem Reverse_is (xs : List Int) (k : Nat) (hn : (xs.length : Int) ≤ 4611686018427387904) (hk : xs.length + 1 < k) : slices_Reverse_int_int.f k xs = some xs.reverse := by
  unfold slices_Reverse_int_int.f
  have e : wrap64 ((xs.length : Int) - 1) = (xs.length : Int) - 1 := by unfold wrap64; omega
  rw [e]
  obtain ⟨ys, h1, h2, h3⟩ := rev_from xs.length hn (xs.length + 1) k xs 0 ((xs.length : Int) - 1) rfl (by omega) (by omega) (by omega) hk
  rw [h1]
  congr 1
  apply List.ext_getElem?
  intro p
  by_cases hp : p < xs.length
  · rw [h3 p hp, if_pos (by omega), List.getElem?_reverse hp]
  · rw [List.getElem?_eq_none (by omega), List.getElem?_eq_none (by simp; omega)]
/-- The windows from b on downwards, n of them at the most. -/
def gen (v size slide : Int) : Nat → Int → List Int
  | 0, _ => []
  | n + 1, b => if b > v - size then b :: gen v size slide n (b - slide) else []
theorem gen_length (v size slide : Int) (n : Nat) : ∀ b, (gen v size slide n b).length ≤ n := by
  induction n with
  | zero => intro b; simp [gen]
  | succ n ih => intro b; unfold gen; split
                 · have := ih (b - slide); simp; omega
                 · simp
/-- The windows that a number falls into, and the error. -/
def bk (v size slide : Int) : List Int × Int := if chk size slide = 0 then (if (flr v slide).2 = 0 then ((gen v size slide 66 (flr v slide).1).reverse, 0) else ([], (flr v slide).2)) else ([], chk size slide)
theorem down (v size slide : Int) (hv : -1152921504606846976 ≤ v ∧ v ≤ 1152921504606846976) (hz : 1 ≤ size ∧ size ≤ 1099511627776) (hs : 1 ≤ slide ∧ slide ≤ 1099511627776) (n : Nat) : ∀ (k : Nat) (out : List Int) (b : Int), b ≤ v → v - size - slide < b → b ≤ v - size + n * slide → out.length + n < 1000 → n < k →
    ∃ k', k ≤ k' + n + 1 ∧ window_Buckets.l0 k v size slide out b = (slices_Reverse_int_int.f k' (out ++ gen v size slide n b)).bind fun t => some (t, 0) := by
  have e0 : wrap64 (v - size) = v - size := by unfold wrap64; omega
  induction n with
  | zero =>
    intro k out b h1 h2 h3 h4 hk
    obtain ⟨k, rfl⟩ : ∃ m, k = m + 1 := ⟨k - 1, by omega⟩
    refine ⟨k, by omega, ?_⟩
    simp only [window_Buckets.l0, e0, gen, List.append_nil]
    rw [if_neg (by omega)]
  | succ n ih =>
    intro k out b h1 h2 h3 h4 hk
    obtain ⟨k, rfl⟩ : ∃ m, k = m + 1 := ⟨k - 1, by omega⟩
    have e1 : ((n + 1 : Nat) : Int) * slide = n * slide + slide := by rw [Int.natCast_add, Int.add_mul]; simp
    by_cases hb : b > v - size
    · obtain ⟨k', hk', h⟩ := ih k (out ++ [b]) (b - slide) (by omega) (by omega) (by omega) (by simp; omega) (by omega)
      refine ⟨k', by omega, ?_⟩
      simp only [window_Buckets.l0, e0, gen]
      have e2 : wrap64 (b - slide) = b - slide := by unfold wrap64; omega
      rw [if_pos hb, if_pos hb, if_pos (by omega), e2, h, List.append_assoc]
      rfl
    · refine ⟨k, by omega, ?_⟩
      simp only [window_Buckets.l0, e0, gen]
      rw [if_neg hb, if_neg hb, List.append_nil]
theorem chk_zero {size slide : Int} (h : chk size slide = 0) : (1 ≤ size ∧ size ≤ 1099511627776) ∧ (1 ≤ slide ∧ slide ≤ 1099511627776) ∧ size ≤ 64 * slide := by
  unfold chk at h
  split at h
  · split at h
    · omega
    · omega
  · omega
theorem flr_zero {v slide : Int} (h : (flr v slide).2 = 0) : (-1152921504606846976 ≤ v ∧ v ≤ 1152921504606846976) ∧ (flr v slide).1 = v / slide * slide := by
  unfold flr at *
  split at h
  · split at h
    · rename_i h1 h2; exact ⟨h2, by rw [if_pos h1, if_pos h2]⟩
    · simp at h
  · simp at h
theorem Buckets_is (k : Nat) (v size slide : Int) (hk : 300 ≤ k) : window_Buckets.f k v size slide = some (bk v size slide) := by
  obtain ⟨j, rfl⟩ : ∃ j, k = j + 1 := ⟨k - 1, by omega⟩
  unfold window_Buckets.f bk
  rw [Check_is j, Floor_is]
  simp only [Option.bind_some]
  by_cases c1 : chk size slide = 0
  · rw [if_pos c1, if_pos c1]
    by_cases c2 : (flr v slide).2 = 0
    · rw [if_pos c2, if_pos c2]
      obtain ⟨hz, hs, hm⟩ := chk_zero c1
      obtain ⟨hv, ht⟩ := flr_zero c2
      obtain ⟨f1, f2, _⟩ := floor_lt (v := v) hs.1
      obtain ⟨k', hk', h⟩ := down v size slide hv hz hs 66 (j + 1) [] (flr v slide).1 (by omega) (by omega) (by omega) (by simp) (by omega)
      have hg := gen_length v size slide 66 (flr v slide).1
      rw [h, List.nil_append, Reverse_is _ k' (by omega) (by omega)]
      rfl
    · rw [if_neg c2, if_neg c2]
  · rw [if_neg c1, if_neg c1]
theorem same_from (xs : List Int) (hn : (xs.length : Int) ≤ 1000) (d : Nat) : ∀ (k : Nat) (i : Int), 0 ≤ i → i ≤ xs.length → (xs.length : Int) - i = d → d < k → runnellaw14_same.l0 k xs xs i = some true := by
  induction d with
  | zero =>
    intro k i h0 h1 hd hk
    obtain ⟨k, rfl⟩ : ∃ m, k = m + 1 := ⟨k - 1, by omega⟩
    simp only [runnellaw14_same.l0]; rw [if_neg (by omega)]
  | succ d ih =>
    intro k i h0 h1 hd hk
    obtain ⟨k, rfl⟩ : ∃ m, k = m + 1 := ⟨k - 1, by omega⟩
    have e : wrap64 (i + 1) = i + 1 := by unfold wrap64; omega
    simp only [runnellaw14_same.l0]; rw [if_pos (by omega), if_pos h0, if_pos (by omega), if_pos trivial, e]
    exact ih k (i + 1) (by omega) (by omega) (by omega) (by omega)
theorem same_is (xs : List Int) (k : Nat) (hn : (xs.length : Int) ≤ 1000) (hk : xs.length < k) : runnellaw14_same.f k xs xs = some true := by
  unfold runnellaw14_same.f
  rw [if_pos rfl]
  exact same_from xs hn xs.length k 0 (by omega) (by omega) (by omega) hk
theorem bk_length (v size slide : Int) : (bk v size slide).1.length ≤ 66 := by
  unfold bk
  split
  · split
    · rw [List.length_reverse]; exact gen_length ..
    · simp
  · simp
theorem live_is (k : Nat) (hk : 300 ≤ k) : runnellaw14_live.f k = some true := by
  unfold runnellaw14_live.f runnellaw14_code.f
  rw [Buckets_is k _ _ _ hk, Buckets_is k _ _ _ hk]
  have b1 : bk 7 10 5 = ([0, 5], 0) := by decide
  have b2 : bk (-1) 5 5 = ([-5], 0) := by decide
  rw [b1, b2]
  simp only [Option.bind_some]
  rw [if_pos (by unfold wrap64; decide), same_is _ k (by decide) (by simp; omega)]
  simp only [Option.bind_some, if_true]
  rw [same_is _ k (by decide) (by simp; omega)]
  rfl
/-- The windows among those of the first m multiples downwards. -/
def firsts (v size slide top : Int) : Nat → List Int
  | 0 => []
  | m + 1 => firsts v size slide top m ++ (if top - m * slide > v - size then [top - m * slide] else [])
theorem firsts_stay (v size slide top : Int) (hs : 1 ≤ slide) (j : Nat) (h : ¬ top - j * slide > v - size) (n : Nat) : firsts v size slide top (j + n) = firsts v size slide top j := by
  induction n with
  | zero => rfl
  | succ n ih =>
    have e : ((j + n : Nat) : Int) * slide = j * slide + n * slide := by rw [Int.natCast_add, Int.add_mul]
    have h0 : 0 ≤ (n : Int) * slide := Int.mul_nonneg (by omega) (by omega)
    rw [← Nat.add_assoc, firsts, if_neg (by omega), List.append_nil, ih]
theorem firsts_gen (v size slide top : Int) (hs : 1 ≤ slide) (n : Nat) : ∀ j : Nat, firsts v size slide top j ++ gen v size slide n (top - j * slide) = firsts v size slide top (j + n) := by
  induction n with
  | zero => intro j; simp [gen]
  | succ n ih =>
    intro j
    have e : ((j + 1 : Nat) : Int) * slide = j * slide + slide := by rw [Int.natCast_add, Int.add_mul]; simp
    unfold gen
    by_cases c : top - j * slide > v - size
    · have := ih (j + 1)
      rw [if_pos c, show j + (n + 1) = j + 1 + n from by omega, ← this, firsts, if_pos c, List.append_assoc]
      congr 2
      rw [show top - (j : Int) * slide - slide = top - ((j + 1 : Nat) : Int) * slide from by omega]
      rfl
    · rw [if_neg c, List.append_nil, firsts_stay v size slide top hs j c]
theorem upward (v size slide top : Int) (hv : -1152921504606846976 ≤ v ∧ v ≤ 1152921504606846976) (hz : 1 ≤ size ∧ size ≤ 1099511627776) (hs : 1 ≤ slide ∧ slide ≤ 1099511627776) (ht : top ≤ v ∧ v < top + slide) (m : Nat) : ∀ (k : Nat) (out : List Int), m ≤ 66 → out.length + m < 1000 → m < k →
    runnelref14_Buckets.l0 k v size slide top out ((m : Int) - 1) = some (out ++ (firsts v size slide top m).reverse, 0) := by
  induction m with
  | zero =>
    intro k out h1 h2 hk
    obtain ⟨k, rfl⟩ : ∃ m, k = m + 1 := ⟨k - 1, by omega⟩
    simp only [runnelref14_Buckets.l0, firsts, List.reverse_nil, List.append_nil]
    rw [if_neg (by omega)]
  | succ m ih =>
    intro k out h1 h2 hk
    obtain ⟨k, rfl⟩ : ∃ m, k = m + 1 := ⟨k - 1, by omega⟩
    have h0 : 0 ≤ (m : Int) * slide ∧ (m : Int) * slide ≤ 66 * 1099511627776 := ⟨Int.mul_nonneg (by omega) (by omega), Int.mul_le_mul (by omega) hs.2 (by omega) (by omega)⟩
    have em : ((m + 1 : Nat) : Int) - 1 = m := by omega
    have e1 : wrap64 ((m : Int) * slide) = m * slide := by generalize (m : Int) * slide = p at *; unfold wrap64; omega
    have e2 : wrap64 (top - (m : Int) * slide) = top - m * slide := by generalize (m : Int) * slide = p at *; unfold wrap64; omega
    have e3 : wrap64 (top - (m : Int) * slide + size) = top - m * slide + size := by generalize (m : Int) * slide = p at *; unfold wrap64; omega
    have e4 : wrap64 ((m : Int) - 1) = m - 1 := by unfold wrap64; omega
    rw [em]
    simp only [runnelref14_Buckets.l0, firsts, e1, e2, e3, e4]
    rw [if_pos (by omega), if_pos (by omega)]
    by_cases c : top - m * slide > v - size
    · rw [if_pos (by omega), if_pos (by omega), if_pos c, ih k _ (by omega) (by simp; omega) (by omega)]
      simp
    · rw [if_neg (by omega), if_neg c, ih k _ (by omega) (by omega) (by omega)]
      simp
theorem RBuckets_is (k : Nat) (v size slide : Int) (hk : 300 ≤ k) : runnelref14_Buckets.f k v size slide = some (bk v size slide) := by
  obtain ⟨j, rfl⟩ : ∃ j, k = j + 2 := ⟨k - 2, by omega⟩
  unfold runnelref14_Buckets.f bk
  rw [RCheck_is (j + 1), RFloor_is]
  simp only [Option.bind_some]
  by_cases c1 : chk size slide = 0
  · rw [if_pos c1, if_pos c1]
    by_cases c2 : (flr v slide).2 = 0
    · rw [if_pos c2, if_pos c2]
      obtain ⟨hz, hs, hm⟩ := chk_zero c1
      obtain ⟨hv, ht⟩ := flr_zero c2
      obtain ⟨f1, f2, _⟩ := floor_lt (v := v) hs.1
      have h := upward v size slide (flr v slide).1 hv hz hs (by omega) 66 (j + 2) [] (by omega) (by simp) (by omega)
      have g := firsts_gen v size slide (flr v slide).1 hs.1 66 0
      rw [show (0 : Nat) + 66 = 66 from rfl, firsts, List.nil_append, show (flr v slide).1 - ((0 : Nat) : Int) * slide = (flr v slide).1 from by simp] at g
      rw [show ((66 : Nat) : Int) - 1 = 65 from rfl, List.nil_append] at h
      rw [g]
      exact h
    · rw [if_neg c2, if_neg c2]
  · rw [if_neg c1, if_neg c1]
theorem less_self : ∀ s : List UInt8, Op.bytesLess s s = false
  | [] => rfl
  | a :: s => by
    have h3 : ¬ a < a := UInt8.lt_irrefl a
    simp [Op.bytesLess, less_self s]
theorem Cmp_self (k : Nat) (a b : Int) (s : ByteArray) : runnelref03_Cmp.f (k + 2) a b s a b s = some 0 := by
  have hl : Op.bytesLess s.toList s.toList = false := less_self _
  have j : runnelref03_Cmp.j0 (k + 2) false a b s a b s = some 0 := by
    rw [runnelref03_Cmp.j0, if_neg (by decide), if_neg (by omega), if_pos rfl]
    by_cases h0 : a = 0
    · rw [if_pos h0, if_neg (by omega), if_neg (by omega)]
    · rw [if_neg h0]
      by_cases h1 : a = 1
      · rw [if_pos h1, hl, if_neg (by decide)]
      · rw [if_neg h1]
  unfold runnelref03_Cmp.f
  rw [if_neg (by omega), if_pos rfl]
  by_cases h0 : a = 0
  · rw [if_pos h0, if_neg (by omega)]
    by_cases h1 : a = 1
    · omega
    · rw [if_neg h1, j]
  · rw [if_neg h0]
    by_cases h1 : a = 1
    · rw [if_pos h1, hl, j]
    · rw [if_neg h1, j]
theorem rdV_get {l : List S35} {i : Nat} (h : i < l.length) : rd_T35 l (i : Int) = l[i] := by
  unfold rd_T35
  rw [List.getD_eq_getElem?_getD, Int.toNat_natCast, List.getElem?_eq_getElem h]; rfl
theorem Order_self (r : List S35) (hr : r.length ≤ 100000) (d : Nat) : ∀ i : Nat, i ≤ r.length → r.length - i = d → Ev (fun k => runnelref03_Order.l0 k r r (i : Int)) 0 := by
  induction d with
  | zero =>
    intro i hi hd
    refine Ev.step (fun k => by rw [runnelref03_Order.l0, if_neg (by omega)]) ?_
    exact Ev.step (fun k => by rw [runnelref03_Order.j1, if_neg (by decide), if_neg (by omega), if_neg (by omega)]) (Ev.now _)
  | succ d ih =>
    intro i hi hd
    refine Ev.step (fun k => by rw [runnelref03_Order.l0, if_pos (by omega), decide_eq_true (show (i : Int) < (r.length : Int) by omega)]) ?_
    refine Ev.step (fun k => by rw [runnelref03_Order.j1, if_pos rfl, if_pos (by omega), if_pos (by omega), if_pos (by omega)]) ?_
    refine Ev.bind (a := 0) ⟨2, fun k hk => ?_⟩ ?_
    · obtain ⟨m, rfl⟩ : ∃ m, k = m + 2 := ⟨k - 2, by omega⟩
      exact Cmp_self m _ _ _
    · exact Ev.congr (fun k => by rw [if_pos rfl, wnext i (by omega)]) (ih (i + 1) (by omega) (by omega))
theorem Same_self (r : List S35) (hr : r.length ≤ 100000) : Ev (fun k => runnelref03_Same.f k r r) true := by
  unfold runnelref03_Same.f runnelref03_Order.f
  exact Ev.bind (Order_self r hr r.length 0 (by omega) (by omega)) (Ev.now _)
theorem rdL_get {l : List (List S35)} {i : Nat} (h : i < l.length) : rd_L3 l (i : Int) = l[i] := by
  unfold rd_L3
  rw [List.getD_eq_getElem?_getD, Int.toNat_natCast, List.getElem?_eq_getElem h]; rfl
theorem SameRows_self (l : List (List S35)) (hl : l.length ≤ 100000) (hr : ∀ r ∈ l, r.length ≤ 100000) : Ev (fun k => runnelref09_SameRows.f k l l) true := by
  have loop : ∀ (d i : Nat), i ≤ l.length → l.length - i = d → Ev (fun k => runnelref09_SameRows.l0 k l l (i : Int)) true := by
    intro d
    induction d with
    | zero => intro i hi hd; exact Ev.step (fun k => by rw [runnelref09_SameRows.l0, if_neg (by omega)]) (Ev.now _)
    | succ d ih =>
      intro i hi hd
      refine Ev.step (fun k => by rw [runnelref09_SameRows.l0, if_pos (by omega), if_pos (by omega), if_pos (by omega)]) ?_
      refine Ev.bind (Same_self _ ?_) ?_
      · rw [rdL_get (by omega)]; exact hr _ (List.getElem_mem _)
      · exact Ev.congr (fun k => by rw [if_pos rfl, wnext i (by omega)]) (ih (i + 1) (by omega) (by omega))
  unfold runnelref09_SameRows.f
  exact Ev.congr (fun k => if_pos rfl) (loop l.length 0 (by omega) (by omega))
theorem long_row (l : List S35) : (Ev (fun k => runnelref03_Long.f k l) true) ∨ (l.length ≤ 30 ∧ Ev (fun k => runnelref03_Long.f k l) false ∧ ∀ t ∈ l, t.f2.size ≤ 5000) := by
  have loop : ∀ (_ : (l.length : Int) ≤ 1000) (d : Nat) (i : Nat), i ≤ l.length → l.length - i = d → (∀ j (h : j < l.length), j < i → l[j].f2.size ≤ 5000) → Ev (fun k => runnelref03_Long.l0 k l (i : Int)) true ∨ (Ev (fun k => runnelref03_Long.l0 k l (i : Int)) false ∧ ∀ t ∈ l, t.f2.size ≤ 5000) := by
    intro hl d
    induction d with
    | zero =>
      intro i hi hd hq
      refine .inr ⟨Ev.step (fun k => by rw [runnelref03_Long.l0, if_neg (by omega)]) (Ev.now _), fun t ht => ?_⟩
      obtain ⟨j, hj, rfl⟩ := List.mem_iff_getElem.1 ht
      exact hq j hj (by omega)
    | succ d ih =>
      intro i hi hd hq
      have hg : rd_T35 l (i : Int) = l[i]'(by omega) := rdV_get (by omega)
      by_cases h : ((rd_T35 l (i : Int)).f2.size : Int) > 5000
      · exact .inl (Ev.step (fun k => by rw [runnelref03_Long.l0, if_pos (by omega), if_pos (by omega), if_pos h]) (Ev.now _))
      · have := ih (i + 1) (by omega) (by omega) (fun j hj hji => by
          by_cases e : j = i
          · subst e; rw [hg] at h; omega
          · exact hq j hj (by omega))
        rcases this with h1 | ⟨h1, h2⟩
        · exact .inl (Ev.step (fun k => by rw [runnelref03_Long.l0, if_pos (by omega), if_pos (by omega), if_neg h, wnext i (by omega)]) h1)
        · exact .inr ⟨Ev.step (fun k => by rw [runnelref03_Long.l0, if_pos (by omega), if_pos (by omega), if_neg h, wnext i (by omega)]) h1, h2⟩
  unfold runnelref03_Long.f
  by_cases h : (l.length : Int) > 30
  · exact .inl (Ev.congr (fun k => if_pos h) (Ev.now _))
  · rcases loop (by omega) l.length 0 (by omega) (by omega) (fun j _ h => by omega) with h1 | ⟨h1, h2⟩
    · exact .inl (Ev.congr (fun k => if_neg h) h1)
    · exact .inr ⟨by omega, Ev.congr (fun k => if_neg h) h1, h2⟩
/-- What a row and a bucket make. -/
def withP (r : List S35) (b : Int) : List S35 := r ++ [(⟨0, b, (⟨#[]⟩ : ByteArray)⟩ : S35)]
/-- A row to its windows. -/
def assignP (r : List S35) (col size slide : Int) : List (List S35) × Int :=
  if col < 0 ∨ col ≥ (r.length : Int) then ([], 9) else if (r.length : Int) ≥ 16 then ([], 3) else if (rd_T35 r col).f0 = 0 then (if (bk (rd_T35 r col).f1 size slide).2 = 0 then ((bk (rd_T35 r col).f1 size slide).1.map (withP r), 0) else ([], (bk (rd_T35 r col).f1 size slide).2)) else ([], 80)
theorem rdI_get {l : List Int} {i : Nat} (h : i < l.length) : rd l (i : Int) = l[i] := by
  unfold rd
  rw [List.getD_eq_getElem?_getD, Int.toNat_natCast, List.getElem?_eq_getElem h]; rfl
theorem Join_is (r : List S35) (b : Int) (hr : r.length ≤ 1000) : Ev (fun k => row_Join.f k [r, [(⟨0, b, (⟨#[]⟩ : ByteArray)⟩ : S35)]]) (withP r b) := by
  unfold row_Join.f
  have e1 : wrap64 ((0 : Int) + 1) = 1 := w64 (by omega)
  have e2 : wrap64 ((1 : Int) + 1) = 2 := w64 (by omega)
  have l0 : rd_L3 [r, [(⟨0, b, (⟨#[]⟩ : ByteArray)⟩ : S35)]] 0 = r := rfl
  have l1 : rd_L3 [r, [(⟨0, b, (⟨#[]⟩ : ByteArray)⟩ : S35)]] 1 = [(⟨0, b, (⟨#[]⟩ : ByteArray)⟩ : S35)] := rfl
  have hl : (([r, [(⟨0, b, (⟨#[]⟩ : ByteArray)⟩ : S35)]] : List (List S35)).length : Int) = 2 := rfl
  rw [hl]
  refine Ev.step (fun k => by rw [row_Join.l0, if_pos (by decide), if_pos (by decide), hl, if_pos (by decide), l0, if_pos (by simp; omega), e1, List.nil_append]) ?_
  refine Ev.step (fun k => by rw [row_Join.l0, if_pos (by decide), if_pos (by decide), hl, if_pos (by decide), l1, if_pos (by simp; omega), e2]) ?_
  exact Ev.step (fun k => by rw [row_Join.l0, if_neg (by decide)]; rfl) (Ev.now (withP r b))
theorem impl_assign (r : List S35) (hr : r.length ≤ 30) (l : List Int) (hl : l.length ≤ 66) (d : Nat) : ∀ (o : List (List S35)) (i : Nat), i ≤ l.length → l.length - i = d → o = (l.take i).map (withP r) → Ev (fun k => window_Assign.l0 k r o l (l.length : Int) (i : Int)) (l.map (withP r), 0) := by
  induction d with
  | zero =>
    intro o i hi hd ho
    have e : i = l.length := by omega
    subst e
    rw [List.take_length] at ho
    subst ho
    exact Ev.step (fun k => by rw [window_Assign.l0, if_neg (by omega)]) (Ev.now _)
  | succ d ih =>
    intro o i hi hd ho
    have hol : o.length < 5864062014805 := by rw [ho, List.length_map, List.length_take]; omega
    refine Ev.step (fun k => by rw [window_Assign.l0, if_pos (by omega), if_pos (by omega), if_pos (by omega)]) (Ev.bind (Join_is r _ (by omega)) ?_)
    refine Ev.congr (fun k => by rw [if_pos hol, wnext i (by omega)]) (ih _ (i + 1) (by omega) (by omega) ?_)
    rw [ho, rdI_get (by omega), List.take_add_one, List.getElem?_eq_getElem (by omega), List.map_append]; rfl
theorem Assign_is (r : List S35) (hr : r.length ≤ 30) (col size slide : Int) : Ev (fun k => window_Assign.f k r col size slide) (assignP r col size slide) := by
  have hb := fun v => bk_length v size slide
  have j : ∀ b : Bool, (b = true ↔ (col < 0 ∨ col ≥ (r.length : Int))) → Ev (fun k => window_Assign.j0 k r col size slide b) (assignP r col size slide) := by
    intro b hbb
    unfold assignP
    by_cases h : col < 0 ∨ col ≥ (r.length : Int)
    · rw [if_pos h]
      exact Ev.step (fun k => by rw [window_Assign.j0, if_pos (hbb.2 h)]) (Ev.now _)
    rw [if_neg h]
    have hbf : ¬ b = true := fun e => h (hbb.1 e)
    by_cases h1 : (r.length : Int) ≥ 16
    · rw [if_pos h1]
      exact Ev.step (fun k => by rw [window_Assign.j0, if_neg hbf, if_pos h1]) (Ev.now _)
    rw [if_neg h1]
    by_cases h2 : (rd_T35 r col).f0 = 0
    · rw [if_pos h2]
      refine Ev.step (fun k => by rw [window_Assign.j0, if_neg hbf, if_neg h1, if_pos (by omega), if_pos (by omega), if_pos h2]) (Ev.bind (a := bk (rd_T35 r col).f1 size slide) ⟨300, fun k hk => Buckets_is k _ _ _ hk⟩ ?_)
      by_cases h3 : (bk (rd_T35 r col).f1 size slide).2 = 0
      · rw [if_pos h3]
        exact Ev.congr (fun k => if_pos h3) (impl_assign r hr _ (hb _) _ [] 0 (by omega) rfl (by rw [List.take_zero]; rfl))
      · rw [if_neg h3]
        exact Ev.congr (fun k => if_neg h3) (Ev.now _)
    · rw [if_neg h2]
      exact Ev.step (fun k => by rw [window_Assign.j0, if_neg hbf, if_neg h1, if_pos (by omega), if_pos (by omega), if_neg h2]) (Ev.now _)
  unfold window_Assign.f
  by_cases h : col < 0
  · exact Ev.congr (fun k => if_pos h) (j true ⟨fun _ => .inl h, fun _ => rfl⟩)
  · exact Ev.congr (fun k => if_neg h) (j _ ⟨fun e => .inr (of_decide_eq_true e), fun e => decide_eq_true (e.resolve_left h)⟩)
theorem ref_assign (r : List S35) (hr : r.length ≤ 30) (l : List Int) (hl : l.length ≤ 66) (d : Nat) : ∀ (o : List (List S35)) (i : Nat), i ≤ l.length → l.length - i = d → o = (l.take i).map (withP r) → Ev (fun k => runnelref14_Assign.l0 k r l o (i : Int)) (l.map (withP r), 0) := by
  induction d with
  | zero =>
    intro o i hi hd ho
    have e : i = l.length := by omega
    subst e
    rw [List.take_length] at ho
    subst ho
    exact Ev.step (fun k => by rw [runnelref14_Assign.l0, if_neg (by omega)]) (Ev.now _)
  | succ d ih =>
    intro o i hi hd ho
    have hol : o.length < 100 := by rw [ho, List.length_map, List.length_take]; omega
    refine Ev.step (fun k => by rw [runnelref14_Assign.l0, if_pos (by omega), Option.bind_some, if_pos (by simp; omega), Option.bind_some, if_pos (by omega), Option.bind_some, if_pos (by simp; omega), Option.bind_some, if_pos (by simp; omega), wnext i (by omega), List.nil_append]) (ih _ (i + 1) (by omega) (by omega) ?_)
    rw [ho, rdI_get (by omega), List.take_add_one, List.getElem?_eq_getElem (by omega), List.map_append]; rfl
theorem RAssign_is (r : List S35) (hr : r.length ≤ 30) (col size slide : Int) : Ev (fun k => runnelref14_Assign.f k r col size slide) (assignP r col size slide) := by
  have hb := fun v => bk_length v size slide
  have j : ∀ b : Bool, (b = true ↔ (col < 0 ∨ col ≥ (r.length : Int))) → Ev (fun k => runnelref14_Assign.j0 k r col size slide b) (assignP r col size slide) := by
    intro b hbb
    unfold assignP
    by_cases h : col < 0 ∨ col ≥ (r.length : Int)
    · rw [if_pos h]
      exact Ev.step (fun k => by rw [runnelref14_Assign.j0, if_pos (hbb.2 h)]) (Ev.now _)
    rw [if_neg h]
    have hbf : ¬ b = true := fun e => h (hbb.1 e)
    by_cases h1 : (r.length : Int) ≥ 16
    · rw [if_pos h1]
      exact Ev.step (fun k => by rw [runnelref14_Assign.j0, if_neg hbf, if_pos h1]) (Ev.now _)
    rw [if_neg h1]
    by_cases h2 : (rd_T35 r col).f0 = 0
    · rw [if_pos h2]
      refine Ev.step (fun k => by rw [runnelref14_Assign.j0, if_neg hbf, if_neg h1, if_pos (by omega), if_pos (by omega), if_pos h2]) (Ev.bind (a := bk (rd_T35 r col).f1 size slide) ⟨300, fun k hk => RBuckets_is k _ _ _ hk⟩ ?_)
      by_cases h3 : (bk (rd_T35 r col).f1 size slide).2 = 0
      · rw [if_pos h3]
        exact Ev.congr (fun k => if_pos h3) (ref_assign r hr _ (hb _) _ [] 0 (by omega) rfl (by rw [List.take_zero]; rfl))
      · rw [if_neg h3]
        exact Ev.congr (fun k => if_neg h3) (Ev.now _)
    · rw [if_neg h2]
      exact Ev.step (fun k => by rw [runnelref14_Assign.j0, if_neg hbf, if_neg h1, if_pos (by omega), if_pos (by omega), if_neg h2]) (Ev.now _)
  unfold runnelref14_Assign.f
  by_cases h : col < 0
  · exact Ev.congr (fun k => if_pos h) (j true ⟨fun _ => .inl h, fun _ => rfl⟩)
  · exact Ev.congr (fun k => if_neg h) (j _ ⟨fun e => .inr (of_decide_eq_true e), fun e => decide_eq_true (e.resolve_left h)⟩)
theorem assignP_bounds (r : List S35) (hr : r.length ≤ 30) (col size slide : Int) : (assignP r col size slide).1.length ≤ 66 ∧ ∀ x ∈ (assignP r col size slide).1, x.length ≤ 100 := by
  have hb := fun v => bk_length v size slide
  unfold assignP
  have nil : (([], 9) : List (List S35) × Int).1.length ≤ 66 ∧ ∀ x ∈ (([], 9) : List (List S35) × Int).1, x.length ≤ 100 := ⟨by simp, by simp⟩
  split
  · exact nil
  split
  · exact nil
  split
  · split
    · refine ⟨by rw [List.length_map]; exact hb _, fun x hx => ?_⟩
      obtain ⟨b, _, rfl⟩ := List.mem_map.1 hx
      unfold withP
      rw [List.length_append]; simp; omega
    · exact nil
  · exact nil
theorem live_ev : Ev (fun k => runnellaw14_live.f k) true := ⟨300, fun k hk => live_is k hk⟩
theorem bump (r : List S35) (hr : r.length ≤ 30) (d : Nat) : ∀ (x : List (List S35)) (i : Nat), x.length ≤ 66 → (∀ y ∈ x, y.length ≤ 100) → i ≤ x.length → x.length - i = d → Ev (fun k => runnellaw14_WindowAssigns.l0 k r r x (i : Int)) true := by
  induction d with
  | zero =>
    intro x i _ _ hi hd
    refine Ev.step (fun k => by rw [runnellaw14_WindowAssigns.l0, if_neg (by omega)]) (Ev.bind (Same_self r (by omega)) ?_)
    exact Ev.congr (fun k => if_pos rfl) (Ev.bind live_ev (Ev.now _))
  | succ d ih =>
    intro x i hx hy hi hd
    refine Ev.step (fun k => by rw [runnellaw14_WindowAssigns.l0, if_pos (by omega)]) ?_
    have inner : ∀ (d2 : Nat) (x : List (List S35)) (j : Nat) (hxi : i < x.length), x.length ≤ 66 → (∀ y ∈ x, y.length ≤ 100) → x.length - i = d + 1 → j ≤ x[i].length → x[i].length - j = d2 → Ev (fun k => runnellaw14_WindowAssigns.l1 k r r x (i : Int) (j : Int)) true := by
      intro d2
      induction d2 with
      | zero =>
        intro x j hxi hx hy hd hj hd2
        have hg := rdL_get hxi
        exact Ev.step (fun k => by rw [runnellaw14_WindowAssigns.l1, if_pos (by omega), if_pos (by omega), hg, if_neg (by omega), wnext i (by omega)]) (ih x (i + 1) hx hy (by omega) (by omega))
      | succ d2 ih2 =>
        intro x j hxi hx hy hd hj hd2
        have hg := rdL_get hxi
        have hyl := hy _ (List.getElem_mem hxi)
        refine Ev.step (fun k => by rw [runnellaw14_WindowAssigns.l1, if_pos (by omega), if_pos (by omega), hg, if_pos (by omega), if_pos (by omega), wnext j (by omega), Int.toNat_natCast]) ?_
        refine ih2 _ (j + 1) (by rw [List.length_set]; exact hxi) (by rw [List.length_set]; exact hx) (fun y hy2 => ?_) (by rw [List.length_set]; exact hd) (by rw [List.getElem_set_self, List.length_set]; omega) (by rw [List.getElem_set_self, List.length_set]; omega)
        rcases List.mem_or_eq_of_mem_set hy2 with h | h
        · exact hy y h
        · rw [h, List.length_set]; exact hyl
    exact inner _ x 0 (by omega) hx hy (by omega) (by omega) rfl
theorem WindowAssigns : runnellaw14_WindowAssigns.Pure := by
  intro r col size slide _ _ _ _
  suffices h : Ev (fun k => runnellaw14_WindowAssigns.f k r col size slide) true from h.rounds
  unfold runnellaw14_WindowAssigns.f
  rcases long_row r with h1 | ⟨hr, h1, _⟩
  · exact Ev.bind h1 (Ev.congr (fun k => if_pos rfl) (Ev.bind live_ev (Ev.now _)))
  refine Ev.bind h1 (Ev.congr (fun k => if_neg (by decide)) ?_)
  obtain ⟨b1, b2⟩ := assignP_bounds r hr col size slide
  refine Ev.congr (fun k => by rw [Option.bind_some, if_pos (by simp; omega), Option.bind_some, List.nil_append]) ?_
  refine Ev.bind (Assign_is r hr col size slide) (Ev.bind (RAssign_is r hr col size slide) (Ev.bind (SameRows_self _ (by omega) (fun x hx => by have := b2 x hx; omega)) ?_))
  refine Ev.congr (fun k => if_pos rfl) ?_
  unfold runnellaw14_code.f
  refine Ev.congr (f := fun k => runnellaw14_WindowAssigns.j0 k r r (assignP r col size slide).1 false) (fun k => by rw [Option.bind_some, bne_self_eq_false]) ?_
  exact Ev.step (fun k => by rw [runnellaw14_WindowAssigns.j0, if_neg (by decide)]; rfl) (bump r hr _ _ 0 b1 b2 (by omega) rfl)

end Go.Proofs.Ytmamkmolgbmmaaa.Pure
