/- Each window that is told is a multiple and holds the number; its neighbours do not. No condition beyond the statement's own. -/
import Derived.Test.YtamlfncglhoolaaQWindowHoldsx2
namespace Go.Proofs.Ytamlfncglhoolaa.Pure
open Go.RowKit Go.Proofs.Ytamlfncglhoolaa.QWindowHolds Go.Proofs.YtamlfncglhoolaaW.PrintWords Go.Proofs.YtamlfncglhoolaaW.PrintLast

theorem wf64 {x : Int} (h : (Lit.int .i64 x).wf = true) : -9223372036854775808 ≤ x ∧ x ≤ 9223372036854775807 := by
  simp only [Lit.wf, IntKind.min, IntKind.max, IntKind.signed, IntKind.bits, Bool.and_eq_true, decide_eq_true_eq, if_true] at h
  omega
/-- May there be such windows: the error. -/
def chk (size slide : Int) : Int := if 1 ≤ size ∧ size ≤ 1099511627776 ∧ 1 ≤ slide ∧ slide ≤ 1099511627776 then (if size > 64 * slide then 3 else 0) else 1
/-- The multiple that is not above, or the error. -/
def flr (v slide : Int) : Int × Int := if 1 ≤ slide ∧ slide ≤ 1099511627776 then (if -1152921504606846976 ≤ v ∧ v ≤ 1152921504606846976 then (v / slide * slide, 0) else (0, 60)) else (0, 1)
theorem between_is (a b c : Int) : window_between_int.f a b c = some (decide (b ≤ a ∧ a ≤ c)) := by
  unfold window_between_int.f
  by_cases h : b ≤ a
  · rw [if_pos h]; simp [h]
  · rw [if_neg h]; simp [h]
theorem Check_is (k : Nat) (size slide : Int) : window_Check.f (k + 1) size slide = some (chk size slide) := by
  unfold window_Check.f chk
  simp only [between_is, Option.bind_some, decide_eq_true_eq]
  by_cases h1 : 1 ≤ size ∧ size ≤ 1099511627776
  · rw [if_pos h1]
    by_cases h2 : 1 ≤ slide ∧ slide ≤ 1099511627776
    · have e : wrap64 (64 * slide) = 64 * slide := by unfold wrap64; omega
      simp only [window_Check.j0, h1, h2, and_self, decide_true, Bool.not_true, Bool.false_eq_true, if_false, if_true, e]
      split <;> rfl
    · have h3 : ¬ (1 ≤ size ∧ size ≤ 1099511627776 ∧ 1 ≤ slide ∧ slide ≤ 1099511627776) := by omega
      rw [if_neg h3]
      simp only [window_Check.j0, h2, decide_false, Bool.not_false, if_true]
  · have h3 : ¬ (1 ≤ size ∧ size ≤ 1099511627776 ∧ 1 ≤ slide ∧ slide ≤ 1099511627776) := by omega
    rw [if_neg h1, if_neg h3]
    simp only [window_Check.j0, if_true]
theorem floor_lt {v slide : Int} (h : 1 ≤ slide) : v / slide * slide ≤ v ∧ v < v / slide * slide + slide ∧ v / slide * slide = v - v % slide ∧ 0 ≤ v % slide ∧ v % slide < slide := by
  have h1 := Int.mul_ediv_add_emod v slide
  have h2 := Int.emod_nonneg v (show slide ≠ 0 by omega)
  have h3 := Int.emod_lt_of_pos v (show 0 < slide by omega)
  rw [Int.mul_comm] at h1
  generalize v / slide * slide = q at *
  omega
theorem tmod_of {v slide : Int} (h : 1 ≤ slide) : (0 ≤ v → Int.tmod v slide = v % slide) ∧ (v < 0 → (v % slide = 0 ∧ Int.tmod v slide = 0 ∨ 0 < v % slide ∧ Int.tmod v slide = v % slide - slide)) := by
  refine ⟨fun h0 => Int.tmod_eq_emod_of_nonneg h0, fun h0 => ?_⟩
  have e := Int.emod_eq_tmod (a := v) (b := slide)
  have h2 := Int.emod_nonneg v (show slide ≠ 0 by omega)
  have h3 := Int.emod_lt_of_pos v (show 0 < slide by omega)
  by_cases hd : slide ∣ v
  · have a := Int.emod_eq_zero_of_dvd hd
    have b := Int.tmod_eq_zero_of_dvd hd
    exact .inl ⟨a, b⟩
  · have hc : ¬ (0 ≤ v ∨ slide ∣ v) := by
      rintro (h | h)
      · omega
      · exact hd h
    rw [if_neg hc] at e
    have hn : v % slide ≠ 0 := fun h => hd (Int.dvd_of_emod_eq_zero h)
    omega
theorem Floor_is (v slide : Int) : window_Floor.f v slide = some (flr v slide) := by
  unfold window_Floor.f flr
  simp only [between_is, Option.bind_some, decide_eq_true_eq]
  by_cases h1 : 1 ≤ slide ∧ slide ≤ 1099511627776
  · rw [if_pos h1, if_pos h1]
    by_cases h2 : -1152921504606846976 ≤ v ∧ v ≤ 1152921504606846976
    · rw [if_pos h2, if_pos h2, if_neg (by omega)]
      obtain ⟨t1, t2⟩ := tmod_of (v := v) h1.1
      obtain ⟨f1, f2, f3, f4, f5⟩ := floor_lt (v := v) h1.1
      rw [f3]
      generalize Int.tmod v slide = t at *
      generalize v % slide = m at *
      clear f1 f2 f3
      unfold wrap64
      split <;> (simp only [Option.some.injEq, Prod.mk.injEq, eq_self, and_true]; omega)
    · rw [if_neg h2, if_neg h2]
  · rw [if_neg h1, if_neg h1]
theorem rd_some {xs : List Int} {i : Nat} (h : i < xs.length) : xs[i]? = some (rd xs (i : Int)) := by
  unfold rd
  rw [Int.toNat_natCast, List.getD_eq_getElem?_getD, List.getElem?_eq_getElem h, Option.getD_some]
/-- slices.Reverse, from a place on: what lies between the two places is turned. -/
theorem rev_from (n : Nat) (hn : (n : Int) ≤ 4611686018427387904) (d : Nat) : ∀ (k : Nat) (xs : List Int) (i j : Int), xs.length = n → 0 ≤ i → i + j = n - 1 → j - i < d → d < k →
    ∃ ys, slices_Reverse_int_int.l0 k xs i j = some ys ∧ ys.length = n ∧ ∀ p : Nat, p < n → ys[p]? = if i ≤ p ∧ (p : Int) ≤ j then xs[n - 1 - p]? else xs[p]? := by
  induction d with
  | zero =>
    intro k xs i j hl h0 hs hd hk
    obtain ⟨k, rfl⟩ : ∃ m, k = m + 1 := ⟨k - 1, by omega⟩
    refine ⟨xs, ?_, hl, fun p hp => ?_⟩
    · simp only [slices_Reverse_int_int.l0]; rw [if_neg (by omega)]
    · rw [if_neg (by omega)]
  | succ d ih =>
    intro k xs i j hl h0 hs hd hk
    obtain ⟨k, rfl⟩ : ∃ m, k = m + 1 := ⟨k - 1, by omega⟩
    by_cases hij : i < j
    · obtain ⟨a, rfl⟩ := Int.eq_ofNat_of_zero_le h0
      obtain ⟨b, rfl⟩ := Int.eq_ofNat_of_zero_le (show 0 ≤ j by omega)
      have hxa := rd_some (xs := xs) (i := a) (by omega)
      have hxb := rd_some (xs := xs) (i := b) (by omega)
      obtain ⟨ys, h1, h2, h3⟩ := ih k ((xs.set ((a : Int)).toNat (rd xs b)).set ((b : Int)).toNat (rd xs a)) (a + 1) (b - 1) (by simp [hl]) (by omega) (by omega) (by omega) (by omega)
      refine ⟨ys, ?_, h2, fun p hp => ?_⟩
      · simp only [slices_Reverse_int_int.l0]
        rw [if_pos hij, if_pos (by omega), if_pos (by omega), if_pos (by omega), if_pos (by omega)]
        have e1 : wrap64 ((a : Int) + 1) = a + 1 := by unfold wrap64; omega
        have e2 : wrap64 ((b : Int) - 1) = b - 1 := by unfold wrap64; omega
        rw [e1, e2]; exact h1
      · rw [h3 p hp]
        simp only [Int.toNat_natCast, List.getElem?_set, List.length_set]
        by_cases c1 : (a : Int) + 1 ≤ p ∧ (p : Int) ≤ b - 1
        · rw [if_pos c1, if_neg (by omega), if_neg (by omega), if_pos (by omega)]
        · rw [if_neg c1]
          by_cases c2 : b = p
          · subst c2
            rw [if_pos rfl, if_pos (by omega), if_pos (by omega), show n - 1 - b = a from by omega, hxa]
          · rw [if_neg c2]
            by_cases c3 : a = p
            · subst c3
              rw [if_pos rfl, if_pos (by omega), if_pos (by omega), show n - 1 - a = b from by omega, hxb]
            · rw [if_neg c3, if_neg (by omega)]
    · refine ⟨xs, ?_, hl, fun p hp => ?_⟩
      · simp only [slices_Reverse_int_int.l0]; rw [if_neg hij]
      · by_cases c : i ≤ p ∧ (p : Int) ≤ j
        · rw [if_pos c, show n - 1 - p = p from by omega]
        · rw [if_neg c]
theorem Reverse_is (xs : List Int) (k : Nat) (hn : (xs.length : Int) ≤ 4611686018427387904) (hk : xs.length + 1 < k) : slices_Reverse_int_int.f k xs = some xs.reverse := by
  unfold slices_Reverse_int_int.f
  have e : wrap64 ((xs.length : Int) - 1) = (xs.length : Int) - 1 := by unfold wrap64; omega
  rw [e]
  obtain ⟨ys, h1, h2, h3⟩ := rev_from xs.length hn (xs.length + 1) k xs 0 ((xs.length : Int) - 1) rfl (by omega) (by omega) (by omega) hk
  rw [h1]
  congr 1
  apply List.ext_getElem?
  intro p
  by_cases hp : p < xs.length
  · rw [h3 p hp, if_pos (by omega), List.getElem?_reverse hp]
  · rw [List.getElem?_eq_none (by omega), List.getElem?_eq_none (by simp; omega)]
/-- The windows from b on downwards, n of them at the most. -/
def gen (v size slide : Int) : Nat → Int → List Int
  | 0, _ => []
  | n + 1, b => if b > v - size then b :: gen v size slide n (b - slide) else []
theorem gen_length (v size slide : Int) (n : Nat) : ∀ b, (gen v size slide n b).length ≤ n := by
  induction n with
  | zero => intro b; simp [gen]
  | succ n ih => intro b; unfold gen; split
                 · have := ih (b - slide); simp; omega
                 · simp
/-- The windows that a number falls into, and the error. -/
def bk (v size slide : Int) : List Int × Int := if chk size slide = 0 then (if (flr v slide).2 = 0 then ((gen v size slide 66 (flr v slide).1).reverse, 0) else ([], (flr v slide).2)) else ([], chk size slide)
theorem down (v size slide : Int) (hv : -1152921504606846976 ≤ v ∧ v ≤ 1152921504606846976) (hz : 1 ≤ size ∧ size ≤ 1099511627776) (hs : 1 ≤ slide ∧ slide ≤ 1099511627776) (n : Nat) : ∀ (k : Nat) (out : List Int) (b : Int), b ≤ v → v - size - slide < b → b ≤ v - size + n * slide → out.length + n < 1000 → n < k →
    ∃ k', k ≤ k' + n + 1 ∧ window_Buckets.l0 k v size slide out b = (slices_Reverse_int_int.f k' (out ++ gen v size slide n b)).bind fun t => some (t, 0) := by
  have e0 : wrap64 (v - size) = v - size := by unfold wrap64; omega
  induction n with
  | zero =>
    intro k out b h1 h2 h3 h4 hk
    obtain ⟨k, rfl⟩ : ∃ m, k = m + 1 := ⟨k - 1, by omega⟩
    refine ⟨k, by omega, ?_⟩
    simp only [window_Buckets.l0, e0, gen, List.append_nil]
    rw [if_neg (by omega)]
  | succ n ih =>
    intro k out b h1 h2 h3 h4 hk
    obtain ⟨k, rfl⟩ : ∃ m, k = m + 1 := ⟨k - 1, by omega⟩
    have e1 : ((n + 1 : Nat) : Int) * slide = n * slide + slide := by rw [Int.natCast_add, Int.add_mul]; simp
    by_cases hb : b > v - size
    · obtain ⟨k', hk', h⟩ := ih k (out ++ [b]) (b - slide) (by omega) (by omega) (by omega) (by simp; omega) (by omega)
      refine ⟨k', by omega, ?_⟩
      simp only [window_Buckets.l0, e0, gen]
      have e2 : wrap64 (b - slide) = b - slide := by unfold wrap64; omega
      rw [if_pos hb, if_pos hb, if_pos (by omega), e2, h, List.append_assoc]
      rfl
    · refine ⟨k, by omega, ?_⟩
      simp only [window_Buckets.l0, e0, gen]
      rw [if_neg hb, if_neg hb, List.append_nil]
theorem chk_zero {size slide : Int} (h : chk size slide = 0) : (1 ≤ size ∧ size ≤ 1099511627776) ∧ (1 ≤ slide ∧ slide ≤ 1099511627776) ∧ size ≤ 64 * slide := by
  unfold chk at h
  split at h
  · split at h
    · omega
    · omega
  · omega
theorem flr_zero {v slide : Int} (h : (flr v slide).2 = 0) : (-1152921504606846976 ≤ v ∧ v ≤ 1152921504606846976) ∧ (flr v slide).1 = v / slide * slide := by
  unfold flr at *
  split at h
  · split at h
    · rename_i h1 h2; exact ⟨h2, by rw [if_pos h1, if_pos h2]⟩
    · simp at h
  · simp at h
theorem Buckets_is (k : Nat) (v size slide : Int) (hk : 300 ≤ k) : window_Buckets.f k v size slide = some (bk v size slide) := by
  obtain ⟨j, rfl⟩ : ∃ j, k = j + 1 := ⟨k - 1, by omega⟩
  unfold window_Buckets.f bk
  rw [Check_is j, Floor_is]
  simp only [Option.bind_some]
  by_cases c1 : chk size slide = 0
  · rw [if_pos c1, if_pos c1]
    by_cases c2 : (flr v slide).2 = 0
    · rw [if_pos c2, if_pos c2]
      obtain ⟨hz, hs, hm⟩ := chk_zero c1
      obtain ⟨hv, ht⟩ := flr_zero c2
      obtain ⟨f1, f2, _⟩ := floor_lt (v := v) hs.1
      obtain ⟨k', hk', h⟩ := down v size slide hv hz hs 66 (j + 1) [] (flr v slide).1 (by omega) (by omega) (by omega) (by simp) (by omega)
      have hg := gen_length v size slide 66 (flr v slide).1
      rw [h, List.nil_append, Reverse_is _ k' (by omega) (by omega)]
      rfl
    · rw [if_neg c2, if_neg c2]
  · rw [if_neg c1, if_neg c1]
theorem same_from (xs : List Int) (hn : (xs.length : Int) ≤ 1000) (d : Nat) : ∀ (k : Nat) (i : Int), 0 ≤ i → i ≤ xs.length → (xs.length : Int) - i = d → d < k → runnellaw14_same.l0 k xs xs i = some true := by
  induction d with
  | zero =>
    intro k i h0 h1 hd hk
    obtain ⟨k, rfl⟩ : ∃ m, k = m + 1 := ⟨k - 1, by omega⟩
    simp only [runnellaw14_same.l0]; rw [if_neg (by omega)]
  | succ d ih =>
    intro k i h0 h1 hd hk
    obtain ⟨k, rfl⟩ : ∃ m, k = m + 1 := ⟨k - 1, by omega⟩
    have e : wrap64 (i + 1) = i + 1 := by unfold wrap64; omega
    simp only [runnellaw14_same.l0]; rw [if_pos (by omega), if_pos h0, if_pos (by omega), if_pos trivial, e]
    exact ih k (i + 1) (by omega) (by omega) (by omega) (by omega)
theorem same_is (xs : List Int) (k : Nat) (hn : (xs.length : Int) ≤ 1000) (hk : xs.length < k) : runnellaw14_same.f k xs xs = some true := by
  unfold runnellaw14_same.f
  rw [if_pos rfl]
  exact same_from xs hn xs.length k 0 (by omega) (by omega) (by omega) hk
theorem bk_length (v size slide : Int) : (bk v size slide).1.length ≤ 66 := by
  unfold bk
  split
  · split
    · rw [List.length_reverse]; exact gen_length ..
    · simp
  · simp
theorem live_is (k : Nat) (hk : 300 ≤ k) : runnellaw14_live.f k = some true := by
  unfold runnellaw14_live.f runnellaw14_code.f
  rw [Buckets_is k _ _ _ hk, Buckets_is k _ _ _ hk]
  have b1 : bk 7 10 5 = ([0, 5], 0) := by decide
  have b2 : bk (-1) 5 5 = ([-5], 0) := by decide
  rw [b1, b2]
  simp only [Option.bind_some]
  rw [if_pos (by unfold wrap64; decide), same_is _ k (by decide) (by simp; omega)]
  simp only [Option.bind_some, if_true]
  rw [same_is _ k (by decide) (by simp; omega)]
  rfl
theorem w64 {x : Int} (h : -9223372036854775808 ≤ x ∧ x ≤ 9223372036854775807) : wrap64 x = x := by unfold wrap64; omega
theorem gen_rows (v size slide : Int) (n : Nat) : ∀ b : Int, b ≤ v - size + n * slide → ∃ K : Nat, gen v size slide n b = (List.range K).map (fun j : Nat => b - j * slide) ∧ (∀ j : Nat, j < K → v - size < b - j * slide) ∧ b - K * slide ≤ v - size := by
  induction n with
  | zero => intro b h; exact ⟨0, by simp [gen], fun j hj => by omega, by simp at h ⊢; omega⟩
  | succ n ih =>
    intro b h
    have e1 : ((n + 1 : Nat) : Int) * slide = n * slide + slide := by rw [Int.natCast_add, Int.add_mul]; simp
    unfold gen
    by_cases hb : b > v - size
    · obtain ⟨K, h1, h2, h3⟩ := ih (b - slide) (by omega)
      have e2 : ∀ j : Nat, b - slide - j * slide = b - ((j + 1 : Nat) : Int) * slide := fun j => by rw [Int.natCast_add, Int.add_mul]; simp; omega
      refine ⟨K + 1, ?_, ?_, ?_⟩
      · rw [if_pos hb, h1, List.range_succ_eq_map, List.map_cons, List.map_map]
        congr 1
        · simp
        · apply List.map_congr_left; intro j _; exact e2 j
      · intro j hj
        cases j with
        | zero => simp; omega
        | succ j => rw [← e2]; exact h2 j (by omega)
      · rw [← e2]; exact h3
    · exact ⟨0, by simp [hb], fun j hj => by omega, by simp; omega⟩
set_option maxHeartbeats 400000 in
theorem holds_from (v size slide q : Int) (K : Nat) (l : List Int) (hl : l.length = K) (hg : ∀ i : Nat, i < K → rd l (i : Int) = q * slide - ((K - 1 - i : Nat) : Int) * slide)
    (hv : -1152921504606846976 ≤ v ∧ v ≤ 1152921504606846976) (hz : 1 ≤ size ∧ size ≤ 1099511627776) (hs : 1 ≤ slide ∧ slide ≤ 1099511627776) (hK : K ≤ 66) (h1 : q * slide ≤ v) (h2 : v < q * slide + slide)
    (hin : ∀ j : Nat, j < K → v - size < q * slide - j * slide) (hout : q * slide - K * slide ≤ v - size) (hF : window_Floor.f v slide = some (q * slide, 0)) (d : Nat) : ∀ (k i : Nat), i ≤ K → K - i = d → d + 301 < k → runnellaw14_WindowHolds.l0 k v size slide l (i : Int) = some true := by
  induction d with
  | zero =>
    intro k i hi hd hk
    obtain ⟨k, rfl⟩ : ∃ m, k = m + 1 := ⟨k - 1, by omega⟩
    simp only [runnellaw14_WindowHolds.l0, runnellaw14_code.f, hF, live_is k (by omega), Option.bind_some]
    rw [if_neg (by omega)]
    by_cases hK0 : K = 0
    · subst hK0
      rw [if_pos (by omega), if_pos trivial]
      have e : wrap64 (v - q * slide) = v - q * slide := by generalize q * slide = t at *; unfold wrap64; omega
      rw [e]
      simp at hout
      rw [if_pos (by omega), if_pos (by omega)]
    · have gl := hg (K - 1) (by omega)
      have g0 := hg 0 (by omega)
      have i0 := hin (K - 1) (by omega)
      have eK : ((K : Int) - 1) = ((K - 1 : Nat) : Int) := by omega
      have e1 : wrap64 ((l.length : Int) - 1) = ((K - 1 : Nat) : Int) := by rw [hl]; unfold wrap64; omega
      rw [if_neg (by omega), e1, if_pos (by omega), if_pos (by omega), gl, if_neg, if_pos (by omega)]
      · rw [show K - 1 - 0 = K - 1 from rfl] at g0
        have eKs : (K : Int) * slide = ((K - 1 : Nat) : Int) * slide + slide := by rw [show (K : Int) = ((K - 1 : Nat) : Int) + 1 from by omega, Int.add_mul, Int.one_mul]
        rw [show ((0 : Nat) : Int) = 0 from rfl] at g0
        rw [g0]
        have e4 : wrap64 (q * slide - ((K - 1 : Nat) : Int) * slide - slide) = q * slide - K * slide := by
          rw [eKs]; generalize ((K - 1 : Nat) : Int) * slide = s at *; generalize q * slide = t at *; unfold wrap64; omega
        have hb : v - size - slide < q * slide - K * slide := by rw [eKs]; omega
        have e5 : wrap64 (v - (q * slide - K * slide)) = v - (q * slide - K * slide) := by
          generalize (K : Int) * slide = s at *; generalize q * slide = t at *; unfold wrap64; omega
        rw [e4, e5, if_neg (by omega)]
        by_cases hsz : size = slide
        · have hK1 : K = 1 := by
            by_cases hlt : K < 2
            · omega
            · have := hin 1 (by omega)
              simp at this
              omega
          rw [if_pos hsz, if_pos (by omega)]
        · rw [if_neg hsz]
      · rw [show K - 1 - (K - 1) = 0 from by omega]
        have e2 : wrap64 (q * slide - ((0 : Nat) : Int) * slide + slide) = q * slide + slide := by simp; generalize q * slide = t at *; unfold wrap64; omega
        rw [e2]; omega
  | succ d ih =>
    intro k i hi hd hk
    obtain ⟨k, rfl⟩ : ∃ m, k = m + 1 := ⟨k - 1, by omega⟩
    have hrec := ih k (i + 1) (by omega) (by omega) (by omega)
    have gi := hg i (by omega)
    have ii := hin (K - 1 - i) (by omega)
    have hm0 : 0 ≤ ((K - 1 - i : Nat) : Int) * slide := Int.mul_nonneg (by omega) (by omega)
    have gp : (i : Int) > 0 → rd l (((i - 1 : Nat) : Int)) = q * slide - (((K - 1 - i : Nat) : Int) * slide + slide) := by
      intro h
      rw [hg (i - 1) (by omega), show ((K - 1 - (i - 1) : Nat) : Int) = ((K - 1 - i : Nat) : Int) + 1 from by omega, Int.add_mul, Int.one_mul]
    have gm : Int.tmod (q * slide - ((K - 1 - i : Nat) : Int) * slide) slide = 0 := by rw [← Int.sub_mul]; exact Int.mul_tmod_left _ _
    simp only [runnellaw14_WindowHolds.l0]
    rw [gi, if_pos (show (i : Int) < l.length by omega), if_pos (show 0 ≤ (i : Int) by omega), if_neg (show ¬ slide = 0 by omega), if_pos gm]
    clear gm gi hg hin hout hF
    generalize rd l = f at *
    generalize ((K - 1 - i : Nat) : Int) * slide = s at *
    generalize q * slide = t at *
    rw [if_neg (by omega), w64 (x := v - (t - s)) (by omega), if_neg (by omega), w64 (x := (i : Int) + 1) (by omega)]
    by_cases hi0 : (i : Int) > 0
    · rw [if_pos hi0, w64 (x := (i : Int) - 1) (by omega), show (i : Int) - 1 = ((i - 1 : Nat) : Int) from by omega, if_pos (by omega), if_pos (by omega), gp hi0, w64 (x := t - s - (t - (s + slide))) (by omega), if_pos (by omega)]
      exact hrec
    · rw [if_neg hi0]
      exact hrec
theorem WindowHolds : runnellaw14_WindowHolds.Pure := by
  intro v size slide _ _ _
  refine ⟨500, ?_⟩
  unfold runnellaw14_WindowHolds.f runnellaw14_code.f
  rw [Buckets_is 500 _ _ _ (by omega)]
  simp only [Option.bind_some]
  by_cases c0 : (bk v size slide).2 = 0
  · rw [if_pos c0]
    unfold bk at c0 ⊢
    by_cases c1 : chk size slide = 0
    · rw [if_pos c1] at c0 ⊢
      by_cases c2 : (flr v slide).2 = 0
      · rw [if_pos c2] at c0 ⊢
        obtain ⟨hz, hs, hm⟩ := chk_zero c1
        obtain ⟨hv, ht⟩ := flr_zero c2
        obtain ⟨f1, f2, _⟩ := floor_lt (v := v) hs.1
        obtain ⟨K, g1, g2, g3⟩ := gen_rows v size slide 66 (flr v slide).1 (by omega)
        have hK := gen_length v size slide 66 (flr v slide).1
        rw [g1] at hK ⊢
        simp only [List.length_map, List.length_range] at hK
        rw [ht] at g2 g3 ⊢
        have hF : window_Floor.f v slide = some (v / slide * slide, 0) := by rw [Floor_is, ← ht, ← c2]
        refine holds_from v size slide (v / slide) K _ (by simp) ?_ hv hz hs hK f1 f2 g2 g3 hF K 500 0 (by omega) (by omega) (by omega)
        intro i hi
        have hlen : i < ((List.range K).map (fun j : Nat => v / slide * slide - j * slide)).reverse.length := by simp; exact hi
        have := rd_some hlen
        rw [List.getElem?_reverse (by simpa using hi)] at this
        simp only [List.length_map, List.length_range] at this
        rw [List.getElem?_map, List.getElem?_range (by omega)] at this
        exact (Option.some.inj this).symm
      · rw [if_neg c2] at c0
        exact absurd c0 c2
    · rw [if_neg c1] at c0
      exact absurd c0 c1
  · rw [if_neg c0]
    have hnil : (bk v size slide).1 = [] := by
      unfold bk at c0 ⊢
      by_cases c1 : chk size slide = 0
      · rw [if_pos c1] at c0 ⊢
        by_cases c2 : (flr v slide).2 = 0
        · rw [if_pos c2] at c0
          exact absurd rfl c0
        · rw [if_neg c2]
      · rw [if_neg c1]
    rw [hnil, if_pos (by simp), live_is 500 (by omega)]
    rfl

end Go.Proofs.Ytamlfncglhoolaa.Pure
