import Derived.Test.YtfmhmlijnidflaaGY
namespace Go.V
open Go Go.RowKit Go.Proofs
set_option maxRecDepth 100000
set_option maxHeartbeats 4000000
set_option linter.unusedVariables false
set_option linter.unusedSimpArgs false
def inR (n : Int) : Prop := -9223372036854775808 ≤ n ∧ n ≤ 9223372036854775807
theorem over_in {n : Int} : (over n).2 = 0 ↔ inR n := by
  unfold over inR
  split
  · exact ⟨fun _ => by assumption, fun _ => rfl⟩
  · exact ⟨fun h => absurd (show (60 : Int) = 0 from h) (by decide), fun h => absurd h (by assumption)⟩
def Fine (l : List Count) : Prop := ∀ (r : List Val) (k : Nat), inR (sumC r (l.take k))
theorem inR_zero : inR 0 := by unfold inR; omega
theorem sumF_fine (l : List Count) (b : Nat) (ds : List Bool) (hd : ds.length = l.length) : ∀ k, k ≤ l.length → ((sumF l b ds k).2.1 = 0 ↔ ∀ j, j ≤ k → inR (sumC (l.getD b default).row (l.take j)))
  | 0, _ => ⟨fun _ j hj => by obtain rfl : j = 0 := by omega
                              exact inR_zero, fun _ => rfl⟩
  | k + 1, hk => by
    have ih := sumF_fine l b ds hd k (by omega)
    have ht := take_sum (l.getD b default).row l k (by omega)
    rw [sumF]
    by_cases h1 : (sumF l b ds k).2.1 = 0
    · rw [if_neg (not_not_intro h1)]
      have hs := (sumF_spec l b ds hd k (by omega) h1).1
      have hj := ih.1 h1
      have last : inR (sumC (l.getD b default).row (l.take (k + 1))) → ∀ j, j ≤ k + 1 → inR (sumC (l.getD b default).row (l.take j)) := fun h j hjk => by
        rcases Nat.lt_or_ge j (k + 1) with h2 | h2
        · exact hj j (by omega)
        · obtain rfl : j = k + 1 := by omega
          exact h
      by_cases h2 : orderR (l.getD k default).row (l.getD b default).row ≠ 0
      · rw [if_pos h2]
        rw [if_neg h2, Int.add_zero] at ht
        exact ⟨fun _ => last (by rw [ht]; exact hj k (Nat.le_refl _)), fun _ => h1⟩
      · rw [if_neg h2]
        rw [if_pos (by simpa using h2), ← hs] at ht
        by_cases h3 : (over ((sumF l b ds k).1 + (l.getD k default).diff)).2 ≠ 0
        · rw [if_pos h3]
          refine ⟨fun h => absurd (show (60 : Int) = 0 from h) (by decide), fun h => absurd (over_in.2 (by rw [← ht]; exact h (k + 1) (Nat.le_refl _))) h3⟩
        · rw [if_neg h3]
          exact ⟨fun _ => last (by rw [ht]; exact over_in.1 (by simpa using h3)), fun _ => rfl⟩
    · rw [if_pos h1]
      exact ⟨fun h => absurd h h1, fun h => absurd (ih.2 fun j hj => h j (by omega)) h1⟩
theorem lessG_fine (l : List Count) (h : Fine l) : ∀ (f : Nat) (ds : List Bool) (acc : List Count), ds.length = l.length → (lessG l f ds acc).2 = 0
  | 0, _, _, _ => rfl
  | f + 1, ds, acc, hd => by
    rw [lessG]
    split
    · rfl
    · rw [if_neg (not_not_intro ((sumF_fine l _ ds hd l.length (Nat.le_refl _)).2 fun j _ => h _ j))]
      exact lessG_fine l h f _ _ (by rw [sumF_len]; exact hd)
theorem lessG_conv (l : List Count) : ∀ (f : Nat) (ds : List Bool) (acc : List Count), ds.length = l.length → freeN ds < f → (lessG l f ds acc).2 = 0 → ∀ j, j < l.length → ds.getD j default = false → ∀ k, k ≤ l.length → inR (sumC (l.getD j default).row (l.take k))
  | 0, _, _, _, hf, _ => absurd hf (Nat.not_lt_zero _)
  | f + 1, ds, acc, hd, hf, he => by
    intro j hj hjd k hk
    obtain ⟨b1, b2⟩ := bestF_spec l ds l.length (Nat.le_refl _)
    have b3 := bestF_free l ds l.length
    rw [lessG] at he
    by_cases hb : bestF l ds l.length < 0
    · rw [b1 hb j hj] at hjd; cases hjd
    · rw [if_neg hb] at he
      have b2 := b2 (by omega)
      have b3 := b3 (by omega)
      generalize (bestF l ds l.length).toNat = b at *
      by_cases hs0 : (sumF l b ds l.length).2.1 = 0
      · rw [if_neg (not_not_intro hs0)] at he
        obtain ⟨s1, s2⟩ := sumF_mark l b ds hd hs0
        have hless := sumF_less l b ds (by omega) b3 l.length b2.1 hs0
        rw [s2] at he hless
        by_cases hm : (mark (l.getD b default).row l ds).getD j default = false
        · exact lessG_conv l f _ _ (mark_len _ _ _ hd) (by omega) he j hj hm k hk
        · rw [mark_get _ _ _ _ hd hj, hjd, Bool.false_or, decide_eq_false_iff_not, Decidable.not_not] at hm
          rw [sumC_key hm]
          exact (sumF_fine l b ds hd l.length (Nat.le_refl _)).1 hs0 k hk
      · rw [if_pos hs0] at he; exact absurd (show (60 : Int) = 0 from he) (by decide)
theorem lessC_iff (l : List Count) : (lessC l).2 = 0 ↔ Fine l := by
  constructor
  · intro h r k
    have h0 : ∀ q, q ≤ l.length → inR (sumC r (l.take q)) := by
      intro q hq
      by_cases hx : ∃ j, j < l.length ∧ orderR (l.getD j default).row r = 0
      · obtain ⟨j, hj, hr⟩ := hx
        rw [← sumC_key hr]
        exact lessG_conv l _ _ [] (by simp) (by rw [freeN_rep]; omega) h j hj (by rw [List.getD_eq_getElem?_getD, List.getElem?_replicate, if_pos hj]; rfl) q hq
      · rw [sumC_zero]
        · exact inR_zero
        · intro d hd e
          obtain ⟨j, hj, rfl⟩ := List.getElem_of_mem (List.mem_of_mem_take hd)
          exact hx ⟨j, hj, by rw [List.getD_eq_getElem?_getD, List.getElem?_eq_getElem hj]; exact e⟩
    rcases Nat.le_total k l.length with h1 | h1
    · exact h0 k h1
    · rw [List.take_of_length_le h1, ← List.take_length (l := l)]; exact h0 _ (Nat.le_refl _)
  · intro h
    exact lessG_fine l h _ _ _ (by simp)
section
variable {p : List Val → Bool} (hp : ∀ a b, orderR a b = 0 → p a = p b)
include hp
theorem sumC_filter (r : List Val) : ∀ l : List Count, sumC r (l.filter fun c => p c.row) = if p r = true then sumC r l else 0
  | [] => by simp [sumC]
  | c :: l => by
    have ih := sumC_filter r l
    by_cases h : p c.row = true
    · rw [List.filter_cons_of_pos (p := fun c : Count => p c.row) h, sumC, ih]
      by_cases hr : p r = true
      · rw [if_pos hr, if_pos hr, sumC]
      · rw [if_neg hr, if_neg hr, if_neg fun e => hr (by rw [← hp _ _ e]; exact h)]; rfl
    · rw [List.filter_cons_of_neg (p := fun c : Count => p c.row) h, ih]
      by_cases hr : p r = true
      · rw [if_pos hr, if_pos hr, sumC, if_neg fun e => h (by rw [hp _ _ e]; exact hr)]; omega
      · rw [if_neg hr, if_neg hr]
theorem fine_filter {l : List Count} (h : Fine l) : Fine (l.filter fun c => p c.row) := by
  intro r k
  have : ∀ (l : List Count) (k : Nat), ∃ j, (l.filter fun c => p c.row).take k = (l.take j).filter fun c => p c.row := by
    intro l
    induction l with
    | nil => intro k; exact ⟨0, by simp⟩
    | cons c l ih =>
      intro k
      by_cases hc : p c.row = true
      · cases k with
        | zero => exact ⟨0, by simp⟩
        | succ k =>
          obtain ⟨j, hj⟩ := ih k
          exact ⟨j + 1, by rw [List.filter_cons_of_pos (p := fun c : Count => p c.row) hc, List.take_succ_cons, List.take_succ_cons, List.filter_cons_of_pos (p := fun c : Count => p c.row) hc, hj]⟩
      · obtain ⟨j, hj⟩ := ih k
        exact ⟨j + 1, by rw [List.filter_cons_of_neg (p := fun c : Count => p c.row) hc, List.take_succ_cons, List.filter_cons_of_neg (p := fun c : Count => p c.row) hc, hj]⟩
  obtain ⟨j, hj⟩ := this l k
  rw [hj, sumC_filter hp]
  split
  · exact h r j
  · exact inR_zero
end
theorem neat_filter {P : Count → Bool} : ∀ {l : List Count}, Neat l → Neat (l.filter P)
  | [], _ => trivial
  | c :: l, h => by
    by_cases hc : P c = true
    · rw [List.filter_cons_of_pos hc]
      exact ⟨h.1, fun d hd => h.2.1 d (List.mem_filter.1 hd).1, neat_filter h.2.2⟩
    · rw [List.filter_cons_of_neg hc]; exact neat_filter h.2.2
/-- A part that is closed under sameness: what is left of it is that part of what is left. -/
theorem less_filter {p : List Val → Bool} (hp : ∀ a b, orderR a b = 0 → p a = p b) {l : List Count} (h : (lessC l).2 = 0) : (lessC (l.filter fun c => p c.row)).2 = 0 ∧ sameC (lessC (l.filter fun c => p c.row)).1 ((lessC l).1.filter fun c => p c.row) = true := by
  have h1 : (lessC (l.filter fun c => p c.row)).2 = 0 := (lessC_iff _).2 (fine_filter hp ((lessC_iff l).1 h))
  obtain ⟨a1, a2, _⟩ := lessC_ok h
  obtain ⟨b1, b2, _⟩ := lessC_ok h1
  refine ⟨h1, neat_same _ _ b1 (neat_filter a1) fun k => ?_⟩
  rw [b2, sumC_filter hp, sumC_filter hp, a2]
end Go.V
namespace Go.V
open Go Go.RowKit Go.Proofs
set_option maxRecDepth 100000
set_option maxHeartbeats 4000000
set_option linter.unusedVariables false
set_option linter.unusedSimpArgs false
theorem cmpI_zero {a b : Int} (h : cmpI a b = 0) : a = b := by unfold cmpI at h; (repeat' split at h) <;> omega
theorem cmpV_zero {a b : Val} (h : cmpV a b = 0) : a.kind = b.kind ∧ (a.kind = 0 → a.int = b.int) := by
  unfold cmpV at h
  split at h
  · rename_i hk; exact absurd (cmpI_zero h) hk
  · rename_i hk
    refine ⟨by simpa using hk, fun h0 => ?_⟩
    rw [if_pos h0] at h
    exact cmpI_zero h
theorem ord_len : ∀ {a b : List Val}, orderR a b = 0 → a.length = b.length
  | [], [], _ => rfl
  | [], _ :: _, h => by rw [orderR] at h; omega
  | _ :: _, [], h => by rw [orderR] at h; omega
  | x :: a, y :: b, h => by
    rw [orderR] at h
    split at h
    · omega
    · simp [ord_len h]
theorem ord_get : ∀ {a b : List Val} (_ : orderR a b = 0) (i : Nat), cmpV (a.getD i default) (b.getD i default) = 0
  | [], [], _, i => by simp; exact cmpV_self _
  | [], _ :: _, h, _ => by rw [orderR] at h; omega
  | _ :: _, [], h, _ => by rw [orderR] at h; omega
  | x :: a, y :: b, h, i => by
    rw [orderR] at h
    split at h
    · omega
    · rename_i h0
      cases i with
      | zero => simpa using h0
      | succ i => rw [List.getD_cons_succ, List.getD_cons_succ]; exact ord_get h i
theorem ord_take : ∀ (k : Nat) {a b : List Val}, orderR a b = 0 → orderR (a.take k) (b.take k) = 0
  | 0, a, b, _ => by simp [orderR]
  | k + 1, [], [], _ => by simp [orderR]
  | k + 1, [], _ :: _, h => by rw [orderR] at h; omega
  | k + 1, _ :: _, [], h => by rw [orderR] at h; omega
  | k + 1, x :: a, y :: b, h => by
    rw [orderR] at h
    rw [List.take_succ_cons, List.take_succ_cons, orderR]
    split at h
    · rename_i h0; exact absurd h h0
    · rename_i h0; rw [if_neg h0]; exact ord_take k h
theorem ord_take_le : ∀ (k : Nat) {a b : List Val}, k ≤ a.length → k ≤ b.length → orderR a b ≤ 0 → orderR (a.take k) (b.take k) ≤ 0
  | 0, a, b, _, _, _ => by simp [orderR]
  | k + 1, [], _, h, _, _ => by simp at h
  | k + 1, _ :: _, [], _, h, _ => by simp at h
  | k + 1, x :: a, y :: b, ha, hb, h => by
    rw [orderR] at h
    rw [List.take_succ_cons, List.take_succ_cons, orderR]
    split at h
    · rename_i h0; rw [if_pos h0]; exact h
    · rename_i h0; rw [if_neg h0]; exact ord_take_le k (by simpa using ha) (by simpa using hb) h
theorem ord_take_lt : ∀ (k : Nat) {a b : List Val}, orderR (a.take k) (b.take k) < 0 → k ≤ a.length → k ≤ b.length → orderR a b < 0
  | 0, a, b, h, _, _ => by simp [orderR] at h
  | k + 1, [], _, _, h, _ => by simp at h
  | k + 1, _ :: _, [], _, _, h => by simp at h
  | k + 1, x :: a, y :: b, h, ha, hb => by
    rw [List.take_succ_cons, List.take_succ_cons, orderR] at h
    rw [orderR]
    split at h
    · rename_i h0; rw [if_pos h0]; exact h
    · rename_i h0; rw [if_neg h0]; exact ord_take_lt k h (by simpa using ha) (by simpa using hb)
theorem ord_app : ∀ {a b : List Val} {c d : List Val}, orderR a b = 0 → orderR c d = 0 → orderR (a ++ c) (b ++ d) = 0
  | [], [], c, d, _, h => h
  | [], _ :: _, _, _, h, _ => by rw [orderR] at h; omega
  | _ :: _, [], _, _, h, _ => by rw [orderR] at h; omega
  | x :: a, y :: b, c, d, h, g => by
    rw [orderR] at h
    rw [List.cons_append, List.cons_append, orderR]
    split at h
    · rename_i h0; exact absurd h h0
    · rename_i h0; rw [if_neg h0]; exact ord_app h g
theorem same_cons {c d : Count} {a b : List Count} : sameC (c :: a) (d :: b) = true ↔ (orderR c.row d.row = 0 ∧ c.diff = d.diff) ∧ sameC a b = true := by
  rw [sameC]
  split
  · rename_i h
    refine ⟨fun h2 => (by cases h2), fun h2 => ?_⟩
    rcases h with h | h
    · exact absurd h2.1.1 h
    · exact absurd h2.1.2 h
  · rename_i h; exact ⟨fun h2 => ⟨by omega, h2⟩, fun h2 => h2.2⟩
theorem same_refl : ∀ a : List Count, sameC a a = true
  | [] => rfl
  | c :: a => same_cons.2 ⟨⟨ord_R.self _, rfl⟩, same_refl a⟩
theorem same_sym : ∀ {a b : List Count}, sameC a b = true → sameC b a = true
  | [], [], _ => rfl
  | [], _ :: _, h => by cases h
  | _ :: _, [], h => by cases h
  | c :: a, d :: b, h => by
    obtain ⟨⟨h1, h2⟩, h3⟩ := same_cons.1 h
    exact same_cons.2 ⟨⟨ord_R.sym h1, h2.symm⟩, same_sym h3⟩
theorem same_tr : ∀ {a b c : List Count}, sameC a b = true → sameC b c = true → sameC a c = true
  | [], [], [], _, _ => rfl
  | [], [], _ :: _, _, h => by cases h
  | [], _ :: _, _, h, _ => by cases h
  | _ :: _, [], _, h, _ => by cases h
  | _ :: _, _ :: _, [], _, h => by cases h
  | x :: a, y :: b, z :: c, h, g => by
    obtain ⟨⟨h1, h2⟩, h3⟩ := same_cons.1 h
    obtain ⟨⟨g1, g2⟩, g3⟩ := same_cons.1 g
    exact same_cons.2 ⟨⟨ord_R.eq_tr h1 g1, h2.trans g2⟩, same_tr h3 g3⟩
theorem same_app : ∀ {a b c d : List Count}, sameC a b = true → sameC c d = true → sameC (a ++ c) (b ++ d) = true
  | [], [], _, _, _, h => h
  | [], _ :: _, _, _, h, _ => by cases h
  | _ :: _, [], _, _, h, _ => by cases h
  | x :: a, y :: b, c, d, h, g => by
    obtain ⟨h1, h3⟩ := same_cons.1 h
    exact same_cons.2 ⟨h1, same_app h3 g⟩
theorem same_rev : ∀ {a b : List Count}, sameC a b = true → sameC a.reverse b.reverse = true
  | [], [], _ => rfl
  | [], _ :: _, h => by cases h
  | _ :: _, [], h => by cases h
  | x :: a, y :: b, h => by
    obtain ⟨h1, h3⟩ := same_cons.1 h
    rw [List.reverse_cons, List.reverse_cons]
    exact same_app (same_rev h3) (same_cons.2 ⟨h1, rfl⟩)
theorem same_take : ∀ (n : Nat) {a b : List Count}, sameC a b = true → sameC (a.take n) (b.take n) = true
  | 0, _, _, _ => by simp [sameC]
  | _ + 1, [], [], _ => rfl
  | _ + 1, [], _ :: _, h => by cases h
  | _ + 1, _ :: _, [], h => by cases h
  | n + 1, x :: a, y :: b, h => by
    obtain ⟨h1, h3⟩ := same_cons.1 h
    exact same_cons.2 ⟨h1, same_take n h3⟩
theorem same_len : ∀ {a b : List Count}, sameC a b = true → a.length = b.length := fun {a b} h => by
  by_cases h1 : a.length = b.length
  · exact h1
  · rw [sameC_len h1] at h; cases h
theorem same_diffs : ∀ {a b : List Count}, sameC a b = true → a.map (·.diff) = b.map (·.diff)
  | [], [], _ => rfl
  | [], _ :: _, h => by cases h
  | _ :: _, [], h => by cases h
  | x :: a, y :: b, h => by
    obtain ⟨h1, h3⟩ := same_cons.1 h
    rw [List.map_cons, List.map_cons, h1.2, same_diffs h3]
theorem same_some : ∀ {a b : List Count}, sameC a b = true → sameC (someG a) (someG b) = true
  | [], [], _ => rfl
  | [], _ :: _, h => by cases h
  | _ :: _, [], h => by cases h
  | x :: a, y :: b, h => by
    obtain ⟨h1, h3⟩ := same_cons.1 h
    have ih := same_some h3
    unfold someG at ih ⊢
    rw [List.filter_cons, List.filter_cons, h1.2]
    split
    · exact same_cons.2 ⟨⟨h1.1, h1.2⟩, ih⟩
    · exact ih
theorem same_top : ∀ (n : Int) {a b : List Count}, sameC a b = true → sameC (topG n a) (topG n b) = true
  | _, [], [], _ => by simp [topG, sameC]
  | _, [], _ :: _, h => by cases h
  | _, _ :: _, [], h => by cases h
  | n, x :: a, y :: b, h => by
    obtain ⟨h1, h3⟩ := same_cons.1 h
    rw [topG, topG, h1.2]
    split
    · rfl
    · exact same_cons.2 ⟨⟨h1.1, rfl⟩, same_top _ h3⟩
theorem same_once : ∀ {a b : List Count}, sameC a b = true → sameC (a.map fun c => ⟨c.row, 1⟩) (b.map fun c => ⟨c.row, 1⟩) = true
  | [], [], _ => rfl
  | [], _ :: _, h => by cases h
  | _ :: _, [], h => by cases h
  | x :: a, y :: b, h => by
    obtain ⟨h1, h3⟩ := same_cons.1 h
    exact same_cons.2 ⟨⟨h1.1, rfl⟩, same_once h3⟩
theorem same_col : ∀ {a b : List Count}, sameC a b = true → ∀ col, colE col a = colE col b ∧ (colE col a = 0 → valsG col a = valsG col b)
  | [], [], _, _ => ⟨rfl, fun _ => rfl⟩
  | [], _ :: _, h, _ => by cases h
  | _ :: _, [], h, _ => by cases h
  | x :: a, y :: b, h, col => by
    obtain ⟨h1, h3⟩ := same_cons.1 h
    obtain ⟨i1, i2⟩ := same_col h3 col
    have hl := ord_len h1.1
    obtain ⟨g1, g2⟩ := cmpV_zero (ord_get h1.1 col.toNat)
    rw [colE, colE, hl, g1, i1]
    refine ⟨rfl, fun h0 => ?_⟩
    split at h0
    · omega
    · split at h0
      · omega
      · rename_i hk
        have hv := i2 (by rw [i1]; exact h0)
        unfold valsG at hv ⊢
        rw [List.map_cons, List.map_cons, hv, g2 (by rw [g1]; simpa using hk)]
theorem ofG_same (kind n : Int) {key key' : List Val} {l l' : List Count} (hk : orderR key key' = 0) (hl : sameC l l' = true) : (ofG kind n key l).2 = (ofG kind n key' l').2 ∧ sameC (ofG kind n key l).1 (ofG kind n key' l').1 = true := by
  have hone : ∀ v : Val, sameC (onceG (key ++ [v])) (onceG (key' ++ [v])) = true := fun v => same_cons.2 ⟨⟨ord_app hk (ord_R.self _), rfl⟩, rfl⟩
  unfold ofG
  split
  · unfold countG
    rw [same_diffs hl]
    split
    · exact ⟨rfl, rfl⟩
    · exact ⟨rfl, hone _⟩
  split
  · obtain ⟨c1, c2⟩ := same_col hl n
    unfold sumG
    rw [c1]
    split
    · exact ⟨rfl, rfl⟩
    · rename_i h0
      rw [same_diffs hl, c2 (by rw [c1]; simpa using h0)]
      split
      · exact ⟨rfl, rfl⟩
      · exact ⟨rfl, hone _⟩
  split
  · exact ⟨rfl, same_top _ (same_take _ (same_rev (same_some hl)))⟩
  split
  · exact ⟨rfl, same_top _ (same_take _ (same_some hl))⟩
  split
  · exact ⟨rfl, same_top _ (same_some hl)⟩
  · exact ⟨rfl, same_once (same_some hl)⟩
end Go.V
namespace Go.V
open Go Go.RowKit Go.Proofs
set_option maxRecDepth 100000
set_option maxHeartbeats 4000000
set_option linter.unusedVariables false
set_option linter.unusedSimpArgs false
theorem neat_mem {l : List Count} (h : Neat l) : ∀ c ∈ l, c.diff ≠ 0 := by
  induction l with
  | nil => intro c hc; cases hc
  | cons x l ih =>
    intro c hc
    rcases List.mem_cons.1 hc with rfl | hc
    · exact h.1
    · exact ih h.2.2 c hc
theorem neat_cat : ∀ {a b : List Count}, Neat a → Neat b → (∀ c ∈ a, ∀ d ∈ b, orderR c.row d.row < 0) → Neat (a ++ b)
  | [], _, _, hb, _ => hb
  | x :: a, b, ha, hb, h => by
    refine ⟨ha.1, fun d hd => ?_, neat_cat ha.2.2 hb fun c hc d hd => h c (List.mem_cons_of_mem _ hc) d hd⟩
    rcases List.mem_append.1 hd with hd | hd
    · exact ha.2.1 d hd
    · exact h x (List.mem_cons_self ..) d hd
theorem neat_one {c : Count} (h : c.diff ≠ 0) : Neat [c] := ⟨h, fun d hd => (by cases hd), trivial⟩
theorem neat_short {l : List Count} (hl : l.length ≤ 1) (h : ∀ c ∈ l, c.diff ≠ 0) : Neat l := by
  match l, hl with
  | [], _ => trivial
  | [c], _ => exact neat_one (h c (List.mem_cons_self ..))
  | _ :: _ :: _, hl => simp at hl
theorem top_mem : ∀ (n : Int) (l : List Count), 0 ≤ n → (∀ c ∈ l, 0 < c.diff) → ∀ c ∈ topG n l, (∃ d ∈ l, d.row = c.row) ∧ 1 ≤ c.diff ∧ c.diff ≤ n
  | _, [], _, _ => by intro c hc; rw [topG] at hc; cases hc
  | n, x :: l, hn, hd => by
    intro c hc
    rw [topG] at hc
    have hx := hd x (List.mem_cons_self ..)
    have hm : 0 ≤ minI x.diff n ∧ minI x.diff n ≤ n := by unfold minI; split <;> omega
    split at hc
    · cases hc
    · rcases List.mem_cons.1 hc with rfl | hc
      · exact ⟨⟨x, List.mem_cons_self .., rfl⟩, by dsimp only; omega, hm.2⟩
      · obtain ⟨⟨d, h1, h2⟩, h3, h4⟩ := top_mem _ l (by omega) (fun c hc => hd c (List.mem_cons_of_mem _ hc)) c hc
        exact ⟨⟨d, List.mem_cons_of_mem _ h1, h2⟩, h3, by omega⟩
theorem top_neat : ∀ (n : Int) (l : List Count), 0 ≤ n → (∀ c ∈ l, 0 < c.diff) → Neat l → Neat (topG n l)
  | _, [], _, _, _ => by rw [topG]; trivial
  | n, x :: l, hn, hd, h => by
    rw [topG]
    have hx := hd x (List.mem_cons_self ..)
    have hm : 0 ≤ minI x.diff n ∧ minI x.diff n ≤ n := by unfold minI; split <;> omega
    split
    · trivial
    · rename_i h0
      refine ⟨h0, fun d hdm => ?_, top_neat _ l (by omega) (fun c hc => hd c (List.mem_cons_of_mem _ hc)) h.2.2⟩
      obtain ⟨⟨e, h1, h2⟩, _⟩ := top_mem _ l (by omega) (fun c hc => hd c (List.mem_cons_of_mem _ hc)) d hdm
      rw [← h2]; exact h.2.1 e h1
theorem once_neat : ∀ {l : List Count}, Neat l → Neat (l.map fun c => (⟨c.row, 1⟩ : Count))
  | [], _ => trivial
  | x :: l, h => by
    refine ⟨by dsimp only; omega, fun d hd => ?_, once_neat h.2.2⟩
    obtain ⟨e, h1, rfl⟩ := List.mem_map.1 hd
    exact h.2.1 e h1
/-- What comes of one piece. -/
def Good1 (k : Nat) (K : List Val) (o : List Count) : Prop := Neat o ∧ ∀ c ∈ o, 1 ≤ c.diff ∧ c.diff ≤ 1000 ∧ k ≤ c.row.length ∧ orderR K (c.row.take k) = 0
theorem ofG_good {kind n : Int} {k : Nat} {K : List Val} {p : List Count} (hkn : knownG kind n = 0) (hK : K.length = k) (hp : Neat p) (hc : ∀ c ∈ p, k ≤ c.row.length ∧ orderR K (c.row.take k) = 0) : Good1 k K (ofG kind n K p).1 := by
  have hone : ∀ v : Val, Good1 k K (onceG (K ++ [v])) := fun v => ⟨neat_one (by dsimp only; omega), fun c hc => by
    have : c = ⟨K ++ [v], 1⟩ := by simpa [onceG] using hc
    subst this
    refine ⟨by dsimp only; omega, by dsimp only; omega, by simp; omega, ?_⟩
    dsimp only
    rw [← hK, List.take_left]; exact ord_R.self _⟩
  have hnil : Good1 k K [] := ⟨trivial, fun c hc => by cases hc⟩
  have htop : ∀ (m : Int) (l : List Count), 0 ≤ m → m ≤ 1000 → (∀ c ∈ l, c ∈ p ∧ 0 < c.diff) → Neat (topG m l) → Good1 k K (topG m l) := fun m l h0 h1 hl hn => ⟨hn, fun c hcm => by
    obtain ⟨⟨d, h2, h3⟩, h4, h5⟩ := top_mem m l h0 (fun c hc => (hl c hc).2) c hcm
    obtain ⟨h6, h7⟩ := hc d (hl d h2).1
    rw [h3] at h6 h7
    exact ⟨h4, by omega, h6, h7⟩⟩
  have hs : Neat (someG p) := neat_filter hp
  unfold ofG
  split
  · unfold countG; split
    · exact hnil
    · exact hone _
  split
  · unfold sumG
    split
    · exact hnil
    split
    · exact hnil
    · exact hone _
  have h1 : ∀ l : List Count, (∀ c ∈ l, c ∈ someG p) → l.length ≤ 1 → Good1 k K (topG 1 l) := fun l hl h1 => by
    refine htop 1 l (by omega) (by omega) (fun c hc => ⟨some_mem c (hl c hc), some_pos c (hl c hc)⟩) (top_neat 1 l (by omega) (fun c hc => some_pos c (hl c hc)) (neat_short h1 fun c hc => ?_))
    have := some_pos c (hl c hc); omega
  split
  · exact h1 _ (fun c hc => List.mem_reverse.1 (List.mem_of_mem_take hc)) (by simp; omega)
  split
  · exact h1 _ (fun c hc => List.mem_of_mem_take hc) (by simp; omega)
  split
  · rename_i h5
    have : 1 ≤ n ∧ n ≤ 1000 := by
      unfold knownG at hkn
      split at hkn
      · omega
      · split at hkn <;> omega
    exact htop n _ (by omega) (by omega) (fun c hc => ⟨some_mem c hc, some_pos c hc⟩) (top_neat n _ (by omega) some_pos hs)
  · refine ⟨once_neat hs, fun c hcm => ?_⟩
    obtain ⟨d, h2, rfl⟩ := List.mem_map.1 hcm
    exact ⟨by dsimp only; omega, by dsimp only; omega, hc d (some_mem d h2)⟩
theorem ofAll_acc (kind n : Int) (k : Nat) : ∀ (ps : List (List Count)) (acc : List Count), (ofAll kind n k ps acc).2 = (ofAll kind n k ps []).2 ∧ ((ofAll kind n k ps []).2 = 0 → (ofAll kind n k ps acc).1 = acc ++ (ofAll kind n k ps []).1)
  | [], acc => by simp [ofAll]
  | p :: ps, acc => by
    rw [ofAll, ofAll, List.nil_append]
    split
    · rename_i h; exact ⟨rfl, fun h2 => absurd h2 h⟩
    · obtain ⟨a1, a2⟩ := ofAll_acc kind n k ps (acc ++ (ofG kind n ((p.getD 0 default).row.take k) p).1)
      obtain ⟨b1, b2⟩ := ofAll_acc kind n k ps (ofG kind n ((p.getD 0 default).row.take k) p).1
      refine ⟨a1.trans b1.symm, fun h => ?_⟩
      rw [b1] at h
      rw [a2 h, b2 h, List.append_assoc]
theorem ofAll_err (kind n : Int) (k : Nat) : ∀ (ps : List (List Count)) (acc : List Count), (ofAll kind n k ps acc).2 ≠ 0 → (ofAll kind n k ps acc).1 = []
  | [], acc => by simp [ofAll]
  | p :: ps, acc => by
    rw [ofAll]
    split
    · exact fun _ => rfl
    · exact ofAll_err kind n k ps _
def outG (kind n : Int) (k : Nat) (s : List Count) : List Count × Int := ofAll kind n k (cutG (sameK k) s) []
theorem tw_filter {k : Nat} {x : Count} : ∀ {r : List Count}, Neat r → (∀ c ∈ r, k ≤ c.row.length) → (∀ d ∈ r, orderR (x.row.take k) (d.row.take k) ≤ 0) → r.takeWhile (sameK k x) = r.filter (sameK k x) ∧ r.dropWhile (sameK k x) = r.filter (fun y => !sameK k x y)
  | [], _, _, _ => ⟨rfl, rfl⟩
  | y :: r, hn, hk, hx => by
    have hy := hx y (List.mem_cons_self ..)
    by_cases h : sameK k x y = true
    · obtain ⟨h1, h2⟩ := tw_filter (k := k) (x := x) hn.2.2 (fun c hc => hk c (List.mem_cons_of_mem _ hc)) (fun d hd => hx d (List.mem_cons_of_mem _ hd))
      rw [List.takeWhile_cons_of_pos h, List.dropWhile_cons_of_pos h, List.filter_cons_of_pos h, List.filter_cons_of_neg (by simp [h]), h1, h2]
      exact ⟨rfl, rfl⟩
    · have hlt : orderR (x.row.take k) (y.row.take k) < 0 := by
        have : ¬ orderR (x.row.take k) (y.row.take k) = 0 := fun e => h (beq_iff_eq.2 e)
        omega
      have hall : ∀ d ∈ r, ¬ sameK k x d = true := fun d hd e => by
        have h1 : orderR (y.row.take k) (d.row.take k) ≤ 0 := ord_take_le k (hk y (List.mem_cons_self ..)) (hk d (List.mem_cons_of_mem _ hd)) (by have := hn.2.1 d hd; omega)
        have h2 := ord_R.lt_le hlt h1
        have h3 : orderR (x.row.take k) (d.row.take k) = 0 := beq_iff_eq.1 e
        omega
      rw [List.takeWhile_cons_of_neg h, List.dropWhile_cons_of_neg h, List.filter_cons_of_neg h, List.filter_cons_of_pos (by simpa using h), List.filter_eq_nil_iff.2 hall, List.filter_eq_self.2 fun d hd => by simpa using hall d hd]
      exact ⟨rfl, rfl⟩
/-- Piece by piece, of a list that is in order. -/
theorem outG_cons (kind n : Int) {k : Nat} {x : Count} {r : List Count} (hn : Neat (x :: r)) (hk : ∀ c ∈ x :: r, k ≤ c.row.length) :
    (outG kind n k (x :: r)).2 = (if (ofG kind n (x.row.take k) (x :: r.filter (sameK k x))).2 ≠ 0 then (ofG kind n (x.row.take k) (x :: r.filter (sameK k x))).2 else (outG kind n k (r.filter fun y => !sameK k x y)).2) ∧
    ((outG kind n k (x :: r)).2 = 0 → (outG kind n k (x :: r)).1 = (ofG kind n (x.row.take k) (x :: r.filter (sameK k x))).1 ++ (outG kind n k (r.filter fun y => !sameK k x y)).1) := by
  obtain ⟨h1, h2⟩ := tw_filter (k := k) (x := x) hn.2.2 (fun c hc => hk c (List.mem_cons_of_mem _ hc)) (fun d hd => ord_take_le k (hk x (List.mem_cons_self ..)) (hk d (List.mem_cons_of_mem _ hd)) (by have := hn.2.1 d hd; omega))
  unfold outG
  rw [cutG, h1, h2, ofAll, List.nil_append]
  have e : ((x :: r.filter (sameK k x)).getD 0 default) = x := rfl
  rw [e]
  obtain ⟨a1, a2⟩ := ofAll_acc kind n k (cutG (sameK k) (r.filter fun y => !sameK k x y)) (ofG kind n (x.row.take k) (x :: r.filter (sameK k x))).1
  split
  · rename_i h; exact ⟨rfl, fun h2 => absurd h2 h⟩
  · exact ⟨a1, fun h => a2 (by rw [← a1]; exact h)⟩
end Go.V
namespace Go.V
open Go Go.RowKit Go.Proofs
set_option maxRecDepth 100000
set_option maxHeartbeats 4000000
set_option linter.unusedVariables false
set_option linter.unusedSimpArgs false
theorem outG_nil (kind n : Int) (k : Nat) : outG kind n k [] = ([], 0) := by unfold outG; rw [cutG, ofAll]
theorem out_good {kind n : Int} {k : Nat} (hkn : knownG kind n = 0) : ∀ (m : Nat) (s : List Count), s.length ≤ m → Neat s → (∀ c ∈ s, k ≤ c.row.length) → (outG kind n k s).2 = 0 → Neat (outG kind n k s).1 ∧ ∀ c ∈ (outG kind n k s).1, 1 ≤ c.diff ∧ c.diff ≤ 1000 ∧ k ≤ c.row.length ∧ ∃ x ∈ s, orderR (x.row.take k) (c.row.take k) = 0
  | m, [], _, _, _, _ => by rw [outG_nil]; exact ⟨trivial, fun c hc => by cases hc⟩
  | 0, x :: r, h, _, _, _ => by simp at h
  | m + 1, x :: r, hm, hn, hk, h0 => by
    obtain ⟨e1, e2⟩ := outG_cons kind n hn hk
    rw [e2 h0]
    rw [h0] at e1
    split at e1
    · rename_i h1; exact absurd e1.symm h1
    have hrest : (r.filter fun y => !sameK k x y).length ≤ r.length := List.length_filter_le _ _
    have hkx := hk x (List.mem_cons_self ..)
    obtain ⟨g1, g2⟩ := out_good hkn m (r.filter fun y => !sameK k x y) (by simp at hm; omega) (neat_filter hn.2.2) (fun c hc => hk c (List.mem_cons_of_mem _ (List.mem_filter.1 hc).1)) e1.symm
    have hp : Neat (x :: r.filter (sameK k x)) := ⟨hn.1, fun d hd => hn.2.1 d (List.mem_filter.1 hd).1, neat_filter hn.2.2⟩
    obtain ⟨f1, f2⟩ := ofG_good (k := k) (K := x.row.take k) hkn (by rw [List.length_take]; omega) hp (fun c hc => by
      rcases List.mem_cons.1 hc with rfl | hc
      · exact ⟨hkx, ord_R.self _⟩
      · exact ⟨hk c (List.mem_cons_of_mem _ (List.mem_filter.1 hc).1), beq_iff_eq.1 (List.mem_filter.1 hc).2⟩)
    refine ⟨neat_cat f1 g1 fun c hc d hd => ?_, fun c hc => ?_⟩
    · obtain ⟨_, _, c3, c4⟩ := f2 c hc
      obtain ⟨_, _, d3, y, hy, d4⟩ := g2 d hd
      obtain ⟨y1, y2⟩ := List.mem_filter.1 hy
      have hxy : orderR (x.row.take k) (y.row.take k) < 0 := by
        have h1 := ord_take_le k hkx (hk y (List.mem_cons_of_mem _ y1)) (by have := hn.2.1 y y1; omega)
        have h2 : ¬ orderR (x.row.take k) (y.row.take k) = 0 := fun e => by
          rw [show sameK k x y = true from beq_iff_eq.2 e] at y2; cases y2
        omega
      exact ord_take_lt k (ord_R.lt_le ((ord_R.eq_lt c4).1 hxy) (by omega)) c3 d3
    · rcases List.mem_append.1 hc with hc | hc
      · obtain ⟨c1, c2, c3, c4⟩ := f2 c hc
        exact ⟨c1, c2, c3, x, List.mem_cons_self .., c4⟩
      · obtain ⟨c1, c2, c3, y, hy, c4⟩ := g2 c hc
        exact ⟨c1, c2, c3, y, List.mem_cons_of_mem _ (List.mem_filter.1 hy).1, c4⟩
def hasK (k : Nat) (K : List Val) (c : Count) : Bool := orderR K (c.row.take k) == 0
theorem out_filter {kind n : Int} {k : Nat} (hkn : knownG kind n = 0) (K : List Val) : ∀ (m : Nat) (s : List Count), s.length ≤ m → Neat s → (∀ c ∈ s, k ≤ c.row.length) → (outG kind n k s).2 = 0 →
    (s.filter (hasK k K) = [] → (outG kind n k s).1.filter (hasK k K) = []) ∧ ∀ x t, s.filter (hasK k K) = x :: t → (ofG kind n (x.row.take k) (x :: t)).2 = 0 ∧ (outG kind n k s).1.filter (hasK k K) = (ofG kind n (x.row.take k) (x :: t)).1
  | m, [], _, _, _, _ => by rw [outG_nil]; exact ⟨fun _ => rfl, fun x t h => by cases h⟩
  | 0, x :: r, h, _, _, _ => by simp at h
  | m + 1, x :: r, hm, hn, hk, h0 => by
    obtain ⟨e1, e2⟩ := outG_cons kind n hn hk
    rw [e2 h0]
    rw [h0] at e1
    split at e1
    · rename_i h1; exact absurd e1.symm h1
    rename_i hof
    have hof : (ofG kind n (x.row.take k) (x :: r.filter (sameK k x))).2 = 0 := by simpa using hof
    have hrest : (r.filter fun y => !sameK k x y).length ≤ r.length := List.length_filter_le _ _
    have hkx := hk x (List.mem_cons_self ..)
    have hnr : Neat (r.filter fun y => !sameK k x y) := neat_filter hn.2.2
    have hkr : ∀ c ∈ r.filter (fun y => !sameK k x y), k ≤ c.row.length := fun c hc => hk c (List.mem_cons_of_mem _ (List.mem_filter.1 hc).1)
    obtain ⟨g1, g2⟩ := out_filter hkn K m (r.filter fun y => !sameK k x y) (by simp at hm; omega) hnr hkr e1.symm
    obtain ⟨_, k2⟩ := out_good hkn m (r.filter fun y => !sameK k x y) (by simp at hm; omega) hnr hkr e1.symm
    have hp : Neat (x :: r.filter (sameK k x)) := ⟨hn.1, fun d hd => hn.2.1 d (List.mem_filter.1 hd).1, neat_filter hn.2.2⟩
    obtain ⟨_, f2⟩ := ofG_good (k := k) (K := x.row.take k) hkn (by rw [List.length_take]; omega) hp (fun c hc => by
      rcases List.mem_cons.1 hc with rfl | hc
      · exact ⟨hkx, ord_R.self _⟩
      · exact ⟨hk c (List.mem_cons_of_mem _ (List.mem_filter.1 hc).1), beq_iff_eq.1 (List.mem_filter.1 hc).2⟩)
    rw [List.filter_append]
    by_cases hx : hasK k K x = true
    · have hx0 : orderR K (x.row.take k) = 0 := beq_iff_eq.1 hx
      have hsame : ∀ y : Count, hasK k K y = sameK k x y := fun y => by
        unfold hasK sameK
        exact Bool.eq_iff_iff.2 (by rw [beq_iff_eq, beq_iff_eq]; exact ord_R.eq_l hx0)
      have hf : r.filter (hasK k K) = r.filter (sameK k x) := List.filter_congr fun y _ => hsame y
      rw [List.filter_cons_of_pos hx, hf]
      have h1 : (ofG kind n (x.row.take k) (x :: r.filter (sameK k x))).1.filter (hasK k K) = (ofG kind n (x.row.take k) (x :: r.filter (sameK k x))).1 := List.filter_eq_self.2 fun c hc => by
        rw [hsame]; exact beq_iff_eq.2 (f2 c hc).2.2.2
      have h2 : (outG kind n k (r.filter fun y => !sameK k x y)).1.filter (hasK k K) = [] := List.filter_eq_nil_iff.2 fun c hc => by
        obtain ⟨_, _, _, y, hy, h3⟩ := k2 c hc
        rw [hsame]
        intro h4
        have h5 : orderR (x.row.take k) (y.row.take k) = 0 := ord_R.eq_tr (beq_iff_eq.1 h4) (ord_R.sym h3)
        have h6 := (List.mem_filter.1 hy).2
        rw [show sameK k x y = true from beq_iff_eq.2 h5] at h6; cases h6
      rw [h1, h2, List.append_nil]
      refine ⟨fun h => (by cases h), fun y t h => ?_⟩
      cases h
      exact ⟨hof, rfl⟩
    · have hns : ∀ y : Count, hasK k K y = true → sameK k x y = false := fun y hy => by
        cases h : sameK k x y with
        | false => rfl
        | true => exact absurd (beq_iff_eq.2 (ord_R.eq_tr (beq_iff_eq.1 hy) (ord_R.sym (beq_iff_eq.1 h)))) hx
      have hf : r.filter (hasK k K) = (r.filter fun y => !sameK k x y).filter (hasK k K) := by
        rw [List.filter_filter]
        refine List.filter_congr fun y _ => ?_
        cases h : hasK k K y with
        | false => simp
        | true => rw [hns y h]; rfl
      have h1 : (ofG kind n (x.row.take k) (x :: r.filter (sameK k x))).1.filter (hasK k K) = [] := List.filter_eq_nil_iff.2 fun c hc h => hx (beq_iff_eq.2 (ord_R.eq_tr (beq_iff_eq.1 h) (ord_R.sym (f2 c hc).2.2.2)))
      rw [List.filter_cons_of_neg hx, hf, h1, List.nil_append]
      exact ⟨g1, g2⟩
theorem sum_same (r : List Val) : ∀ {a b : List Count}, sameC a b = true → sumC r a = sumC r b
  | [], [], _ => rfl
  | [], _ :: _, h => by cases h
  | _ :: _, [], h => by cases h
  | x :: a, y :: b, h => by
    obtain ⟨⟨h1, h2⟩, h3⟩ := same_cons.1 h
    rw [sumC, sumC, sum_same r h3, h2]
    by_cases e : orderR x.row r = 0
    · rw [if_pos e, if_pos ((ord_R.eq_l h1).1 e)]
    · rw [if_neg e, if_neg fun g => e ((ord_R.eq_l h1).2 g)]
theorem sum_or (r : List Val) {P Q : Count → Bool} : ∀ {a : List Count}, (∀ c ∈ a, P c = true → Q c = true → False) → sumC r (a.filter P) + sumC r (a.filter Q) = sumC r (a.filter fun c => P c || Q c)
  | [], _ => by simp [sumC]
  | c :: a, h => by
    have ih := sum_or r (P := P) (Q := Q) (a := a) fun d hd => h d (List.mem_cons_of_mem _ hd)
    have hc := h c (List.mem_cons_self ..)
    rw [List.filter_cons, List.filter_cons, List.filter_cons]
    cases hP : P c <;> cases hQ : Q c
    · simpa using ih
    · simp [sumC]; omega
    · simp [sumC]; omega
    · exact (hc hP hQ).elim
theorem sum_mono (r : List Val) : ∀ (l : List Count) (k : Nat), (∀ c ∈ l, 0 ≤ c.diff) → 0 ≤ sumC r (l.take k) ∧ sumC r (l.take k) ≤ sumC r l
  | [], k, _ => by simp [sumC]
  | c :: l, 0, h => by
    have := (sum_mono r l 0 fun d hd => h d (List.mem_cons_of_mem _ hd)).2
    have h1 := h c (List.mem_cons_self ..)
    rw [List.take_zero] at this ⊢
    refine ⟨Int.le_refl _, ?_⟩
    rw [show sumC r [] = 0 from rfl] at this ⊢
    rw [sumC]
    split <;> omega
  | c :: l, k + 1, h => by
    have := sum_mono r l k fun d hd => h d (List.mem_cons_of_mem _ hd)
    have h1 := h c (List.mem_cons_self ..)
    rw [List.take_succ_cons, sumC, sumC]
    split <;> omega
theorem neat_sum (r : List Val) : ∀ {l : List Count}, Neat l → (∀ c ∈ l, 0 ≤ c.diff ∧ c.diff ≤ 1000) → sumC r l ≤ 1000
  | [], _, _ => by simp [sumC]
  | c :: l, hn, h => by
    have ih := neat_sum r hn.2.2 fun d hd => h d (List.mem_cons_of_mem _ hd)
    rw [sumC]
    by_cases e : orderR c.row r = 0
    · rw [if_pos e, sumC_zero]
      · have := h c (List.mem_cons_self ..); omega
      · intro d hd g
        have h1 := hn.2.1 d hd
        have h2 := ord_R.eq_tr e (ord_R.sym g)
        omega
    · rw [if_neg e]; omega
theorem fine_small {l a : List Count} (hl : ∀ c ∈ l, 0 ≤ c.diff) (ha : Neat a) (ha2 : ∀ c ∈ a, 0 ≤ c.diff ∧ c.diff ≤ 1000) (h : ∀ r, sumC r l = sumC r a) : (lessC l).2 = 0 ∧ sameC (lessC l).1 a = true := by
  have h1 : (lessC l).2 = 0 := (lessC_iff l).2 fun r k => by
    have h2 := sum_mono r l k hl
    have h3 := neat_sum r ha ha2
    rw [← h r] at h3
    unfold inR; omega
  obtain ⟨b1, b2, _⟩ := lessC_ok h1
  exact ⟨h1, neat_same _ _ b1 ha fun k => by rw [b2, h]⟩
end Go.V
namespace Go.V
open Go Go.RowKit Go.Proofs
set_option maxRecDepth 100000
set_option maxHeartbeats 4000000
set_option linter.unusedVariables false
set_option linter.unusedSimpArgs false
theorem make_ok {kind key n : Int} {l : List Count} (h : (makeG kind key n l).2 = 0) : ¬ (kind < 0 ∨ 6 ≤ kind) ∧ ¬ keyK kind key < 0 ∧ l.any (shortG (keyK kind key)) = false ∧ knownG kind n = 0 ∧ (lessC l).2 = 0 ∧ makeG kind key n l = outG kind n (keyK kind key).toNat (lessC l).1 := by
  have h' := h
  unfold makeG at h'
  by_cases h1 : kind < 0 ∨ 6 ≤ kind
  · rw [if_pos h1] at h'; exact absurd (show (8 : Int) = 0 from h') (by decide)
  rw [if_neg h1] at h'
  by_cases h2 : keyK kind key < 0 ∨ l.any (shortG (keyK kind key)) = true
  · rw [if_pos h2] at h'; exact absurd (show (9 : Int) = 0 from h') (by decide)
  rw [if_neg h2] at h'
  by_cases h3 : knownG kind n ≠ 0
  · rw [if_pos h3] at h'; exact absurd h' h3
  rw [if_neg h3] at h'
  by_cases h4 : (lessC l).2 ≠ 0
  · rw [if_pos h4] at h'; exact absurd h' h4
  refine ⟨h1, fun h5 => h2 (.inl h5), by simpa using fun h5 : l.any (shortG (keyK kind key)) = true => h2 (.inr h5), by simpa using h3, by simpa using h4, ?_⟩
  unfold makeG
  rw [if_neg h1, if_neg h2, if_neg h3, if_neg h4]; rfl
theorem make_of {kind key n : Int} {l : List Count} (h1 : ¬ (kind < 0 ∨ 6 ≤ kind)) (h2 : ¬ keyK kind key < 0) (h3 : l.any (shortG (keyK kind key)) = false) (h4 : knownG kind n = 0) (h5 : (lessC l).2 = 0) : makeG kind key n l = outG kind n (keyK kind key).toNat (lessC l).1 := by
  unfold makeG
  rw [if_neg h1, if_neg (notbad h2 h3), if_neg (not_not_intro h4), if_neg (not_not_intro h5)]; rfl
theorem make_err {kind key n : Int} {l : List Count} (h : (makeG kind key n l).2 ≠ 0) : (makeG kind key n l).1.length = 0 := by
  unfold makeG at h ⊢
  split
  · rfl
  split
  · rfl
  split
  · rfl
  split
  · rfl
  rename_i h1 h2 h3 h4
  rw [if_neg h1, if_neg h2, if_neg h3, if_neg h4] at h
  rw [ofAll_err _ _ _ _ _ h]; rfl
theorem top_one {l : List Count} (h : ∀ c ∈ l, 0 < c.diff) : topG 1 (l.take 1) = topG 1 l := by
  cases l with
  | nil => rfl
  | cons x r =>
    have hx := h x (List.mem_cons_self ..)
    have h1 : minI x.diff 1 = 1 := by unfold minI; split <;> omega
    have e : ∀ q, topG 1 (x :: q) = ⟨x.row, 1⟩ :: topG 0 q := fun q => by rw [topG, h1, if_neg (by decide)]; rfl
    rw [List.take_succ_cons, List.take_zero, e, e]
    congr 1
    cases r with
    | nil => rfl
    | cons y r =>
      have hy := h y (List.mem_cons_of_mem _ (List.mem_cons_self ..))
      have h2 : minI y.diff 0 = 0 := by unfold minI; rw [if_pos (by omega)]
      rw [topG, topG, h2, if_pos rfl]
theorem ofG35 (K : List Val) (p : List Count) : ofG 3 0 K p = ofG 5 1 K p := by
  unfold ofG
  rw [if_neg (by decide), if_neg (by decide), if_neg (by decide), if_pos rfl, if_neg (by decide), if_neg (by decide), if_neg (by decide), if_neg (by decide), if_pos rfl, top_one some_pos]
theorem ofAll35 (k : Nat) : ∀ (ps : List (List Count)) (acc : List Count), ofAll 3 0 k ps acc = ofAll 5 1 k ps acc ∧ (ofAll 3 0 k ps acc).2 = 0
  | [], _ => ⟨rfl, rfl⟩
  | p :: ps, acc => by
    rw [ofAll, ofAll, ← ofG35]
    have h0 : (ofG 3 0 ((p.getD 0 default).row.take k) p).2 = 0 := by
      unfold ofG
      rw [if_neg (by decide), if_neg (by decide), if_neg (by decide), if_pos rfl]
    rw [if_neg (not_not_intro h0), if_neg (not_not_intro h0)]
    exact ofAll35 k ps _
theorem ofAll0 (n : Int) (k : Nat) : ∀ (ps : List (List Count)) (acc : List Count), ofAll 0 n k ps acc = (acc ++ (someG ps.flatten).map (fun c => (⟨c.row, 1⟩ : Count)), 0)
  | [], acc => by simp [ofAll, someG]
  | p :: ps, acc => by
    have h0 : ofG 0 n ((p.getD 0 default).row.take k) p = ((someG p).map fun c => ⟨c.row, 1⟩, 0) := by
      unfold ofG
      rw [if_neg (by decide), if_neg (by decide), if_neg (by decide), if_neg (by decide), if_neg (by decide)]
    rw [ofAll, h0, if_neg (by simp), ofAll0 n k ps, List.flatten_cons]
    unfold someG
    rw [List.filter_append, List.map_append, List.append_assoc]
theorem out0 (n : Int) (k : Nat) (s : List Count) : outG 0 n k s = ((someG s).map (fun c => (⟨c.row, 1⟩ : Count)), 0) := by
  unfold outG
  rw [ofAll0, cutG_flat _ _ _ (Nat.le_refl _), List.nil_append]
theorem once_filter (p : List Val → Bool) : ∀ s : List Count, ((someG s).map (fun c => (⟨c.row, 1⟩ : Count))).filter (fun c => p c.row) = (someG (s.filter fun c => p c.row)).map (fun c => (⟨c.row, 1⟩ : Count))
  | [] => rfl
  | x :: s => by
    have ih := once_filter p s
    unfold someG at ih ⊢
    by_cases h1 : decide (x.diff ≤ 0) = true
    · rw [List.filter_cons_of_neg (by rw [h1]; decide), ih]
      by_cases h2 : p x.row = true
      · rw [List.filter_cons_of_pos (p := fun c : Count => p c.row) h2, List.filter_cons_of_neg (by rw [h1]; decide)]
      · rw [List.filter_cons_of_neg (p := fun c : Count => p c.row) h2]
    · have h1' : (!decide (x.diff ≤ 0)) = true := by simpa using h1
      rw [List.filter_cons_of_pos (p := fun c : Count => !decide (c.diff ≤ 0)) h1', List.map_cons]
      by_cases h2 : p x.row = true
      · rw [List.filter_cons_of_pos (p := fun c : Count => p c.row) (by exact h2), List.filter_cons_of_pos (p := fun c : Count => p c.row) h2, List.filter_cons_of_pos (p := fun c : Count => !decide (c.diff ≤ 0)) h1', List.map_cons, ih]
      · rw [List.filter_cons_of_neg (p := fun c : Count => p c.row) (by exact h2), List.filter_cons_of_neg (p := fun c : Count => p c.row) h2, ih]
theorem keyG_same (kind key : Int) {a b : List Val} (h : orderR a b = 0) : orderR (keyG kind key a).1 (keyG kind key b).1 = 0 := by
  unfold keyG
  rw [ord_len h]
  split
  · exact h
  split
  · rfl
  · exact ord_take _ h
theorem clG_closed (kind key : Int) (x : Count) : ∀ a b, orderR a b = 0 → (orderR (keyG kind key x.row).1 (keyG kind key a).1 == 0) = (orderR (keyG kind key x.row).1 (keyG kind key b).1 == 0) := fun a b h => by
  have h1 := keyG_same kind key h
  exact Bool.eq_iff_iff.2 (by rw [beq_iff_eq, beq_iff_eq]; exact ⟨fun g => ord_R.eq_tr g h1, fun g => ord_R.eq_tr g (ord_R.sym h1)⟩)
theorem keyG_take {kind key : Int} {r : List Val} (hk : kind ≠ 0) (h0 : 0 ≤ key) (h1 : key.toNat ≤ r.length) : (keyG kind key r).1 = r.take key.toNat := by
  unfold keyG
  rw [if_neg hk, if_neg (by omega)]
theorem less_long {l : List Count} {k : Int} (h0 : (lessC l).2 = 0) (h : l.any (shortG k) = false) : ∀ c ∈ (lessC l).1, k.toNat ≤ c.row.length := fun c hc => by
  obtain ⟨d, hd, e⟩ := (lessC_ok h0).2.2 c hc
  have := short_le h d hd
  rw [← e]; omega
/-- What comes of the rows that go together is that part of what comes of all. -/
theorem class_out {kind key n : Int} {l : List Count} (h : (makeG kind key n l).2 = 0) (i : Nat) (hi : i < l.length) : (makeG kind key n (classG kind key l i)).2 = 0 ∧ sameC (makeG kind key n (classG kind key l i)).1 ((makeG kind key n l).1.filter fun c => clG kind key (l.getD i default) c) = true := by
  obtain ⟨h1, h2, h3, h4, h5, h6⟩ := make_ok h
  have hx := getD_mem' l i hi
  generalize hxe : l.getD i default = x at hx
  obtain ⟨t1, t2⟩ := less_filter (clG_closed kind key x) h5
  have hcls : classG kind key l i = l.filter fun c => (orderR (keyG kind key x.row).1 (keyG kind key c.row).1 == 0) := by unfold classG clG; rw [hxe]
  rw [← hcls] at t1 t2
  have hsub : ∀ c ∈ classG kind key l i, c ∈ l ∧ clG kind key x c = true := fun c hc => by
    rw [hcls] at hc
    exact ⟨(List.mem_filter.1 hc).1, (List.mem_filter.1 hc).2⟩
  have h3' : (classG kind key l i).any (shortG (keyK kind key)) = false := List.any_eq_false.2 fun c hc => List.any_eq_false.1 h3 c (hsub c hc).1
  have hm := make_of h1 h2 h3' h4 t1
  rw [hm]
  rw [h6] at h ⊢
  have hn := (lessC_ok h5).1
  have hsl := less_long h5 h3
  obtain ⟨tn, _, tm⟩ := lessC_ok t1
  have htl := less_long t1 h3'
  by_cases hk : kind = 0
  · subst hk
    rw [out0, out0]
    refine ⟨rfl, ?_⟩
    have := once_filter (fun r => orderR (keyG 0 key x.row).1 (keyG 0 key r).1 == 0) (lessC l).1
    rw [show (fun c : Count => clG 0 key x c) = fun c : Count => (fun r => orderR (keyG 0 key x.row).1 (keyG 0 key r).1 == 0) c.row from rfl, this]
    exact same_once (same_some t2)
  · have hkk : keyK kind key = key := if_neg hk
    rw [hkk] at h h2 h3 h3' hsl htl ⊢
    have h0 : 0 ≤ key := by omega
    have hxl : key.toNat ≤ x.row.length := by have := short_le h3 x hx; omega
    obtain ⟨o1, o2⟩ := out_good h4 _ _ (Nat.le_refl _) hn hsl h
    obtain ⟨f1, f2⟩ := out_filter h4 (x.row.take key.toNat) _ _ (Nat.le_refl _) hn hsl h
    have hcl : ∀ c : Count, key.toNat ≤ c.row.length → clG kind key x c = hasK key.toNat (x.row.take key.toNat) c := fun c hc => by
      unfold clG hasK
      rw [keyG_take hk h0 hxl, keyG_take hk h0 hc]
    rw [show (outG kind n key.toNat (lessC l).1).1.filter (fun c => clG kind key x c) = (outG kind n key.toNat (lessC l).1).1.filter (hasK key.toNat (x.row.take key.toNat)) from List.filter_congr fun c hc => hcl c (o2 c hc).2.2.1]
    rw [show (lessC l).1.filter (fun c => (orderR (keyG kind key x.row).1 (keyG kind key c.row).1 == 0)) = (lessC l).1.filter (hasK key.toNat (x.row.take key.toNat)) from List.filter_congr fun c hc => hcl c (hsl c hc)] at t2
    have htK : ∀ c ∈ (lessC (classG kind key l i)).1, orderR (x.row.take key.toNat) (c.row.take key.toNat) = 0 := fun c hc => by
      obtain ⟨d, hd, e⟩ := tm c hc
      have h7 := (hsub d hd).2
      rw [hcl d (by rw [e]; exact htl c hc)] at h7
      have h8 : orderR (x.row.take key.toNat) (d.row.take key.toNat) = 0 := beq_iff_eq.1 h7
      rw [← e]; exact h8
    generalize (lessC (classG kind key l i)).1 = t at *
    cases hf : (lessC l).1.filter (hasK key.toNat (x.row.take key.toNat)) with
    | nil =>
      rw [hf] at t2
      have : t = [] := List.eq_nil_of_length_eq_zero (same_len t2)
      subst this
      rw [f1 hf, outG_nil]; exact ⟨rfl, rfl⟩
    | cons y u =>
      rw [hf] at t2
      obtain ⟨g1, g2⟩ := f2 y u hf
      cases t with
      | nil => cases t2
      | cons z v =>
        obtain ⟨e1, e2⟩ := outG_cons kind n tn htl
        have hz := htK z (List.mem_cons_self ..)
        have hsame : ∀ d ∈ v, sameK key.toNat z d = true := fun d hd => beq_iff_eq.2 (ord_R.eq_tr (ord_R.sym hz) (htK d (List.mem_cons_of_mem _ hd)))
        have r1 : v.filter (sameK key.toNat z) = v := List.filter_eq_self.2 hsame
        have r2 : (v.filter fun d => !sameK key.toNat z d) = [] := List.filter_eq_nil_iff.2 fun d hd => by rw [hsame d hd]; decide
        rw [r1, r2, outG_nil] at e1 e2
        obtain ⟨q1, q2⟩ := ofG_same kind n (ord_take key.toNat (same_cons.1 t2).1.1) t2
        rw [q1, g1] at e1
        have e1 : (outG kind n key.toNat (z :: v)).2 = 0 := by simpa using e1
        rw [e2 e1, List.append_nil, g2]
        exact ⟨e1, q2⟩
end Go.V
namespace Go.V
open Go Go.RowKit Go.Proofs
set_option maxRecDepth 100000
set_option maxHeartbeats 4000000
set_option linter.unusedVariables false
set_option linter.unusedSimpArgs false
theorem make_good {kind key n : Int} {l : List Count} (h : (makeG kind key n l).2 = 0) : Neat (makeG kind key n l).1 ∧ (∀ c ∈ (makeG kind key n l).1, 1 ≤ c.diff ∧ c.diff ≤ 1000) ∧ ∀ c ∈ (makeG kind key n l).1, ∃ j, j < l.length ∧ clG kind key (l.getD j default) c = true := by
  obtain ⟨h1, h2, h3, h4, h5, h6⟩ := make_ok h
  obtain ⟨hn, _, hm⟩ := lessC_ok h5
  have hsl := less_long h5 h3
  rw [h6] at h ⊢
  obtain ⟨o1, o2⟩ := out_good h4 _ _ (Nat.le_refl _) hn hsl h
  refine ⟨o1, fun c hc => ⟨(o2 c hc).1, (o2 c hc).2.1⟩, fun c hc => ?_⟩
  have idx : ∀ d ∈ l, ∃ j, j < l.length ∧ l.getD j default = d := fun d hd => by
    obtain ⟨j, hj, rfl⟩ := List.getElem_of_mem hd
    exact ⟨j, hj, by rw [List.getD_eq_getElem?_getD, List.getElem?_eq_getElem hj]; rfl⟩
  by_cases hk : kind = 0
  · subst hk
    rw [out0] at hc
    obtain ⟨x, hx, rfl⟩ := List.mem_map.1 hc
    obtain ⟨d, hd, e⟩ := hm x (some_mem x hx)
    obtain ⟨j, hj, rfl⟩ := idx d hd
    refine ⟨j, hj, ?_⟩
    unfold clG
    dsimp only
    rw [← e]; exact beq_iff_eq.2 (ord_R.self _)
  · obtain ⟨_, _, hcl, x, hx, e2⟩ := o2 c hc
    obtain ⟨d, hd, e⟩ := hm x hx
    obtain ⟨j, hj, rfl⟩ := idx d hd
    refine ⟨j, hj, ?_⟩
    have hxl := hsl x hx
    have hkk : keyK kind key = key := if_neg hk
    rw [hkk] at hxl hcl e2 h2
    unfold clG
    rw [e, keyG_take hk (by omega) hxl, keyG_take hk (by omega) hcl]
    exact beq_iff_eq.2 e2
theorem any_range (p : Nat → Bool) (i : Nat) : (List.range (i + 1)).any p = ((List.range i).any p || p i) := by
  rw [List.range_succ, List.any_append]; simp
theorem parts_sum {kind key n : Int} {l : List Count} (h : (makeG kind key n l).2 = 0) (r : List Val) : ∀ i, i ≤ l.length → sumC r (partsG kind key n l i) = sumC r ((makeG kind key n l).1.filter fun c => (List.range i).any fun j => clG kind key (l.getD j default) c)
  | 0, _ => by
    rw [show (fun c : Count => (List.range 0).any fun j => clG kind key (l.getD j default) c) = fun _ => false from rfl, List.filter_eq_nil_iff.2 (fun _ _ => Bool.false_ne_true)]
    simp [partsG]
  | i + 1, hi => by
    have ih := parts_sum h r i (by omega)
    rw [partsG]
    rw [show (fun c : Count => (List.range (i + 1)).any fun j => clG kind key (l.getD j default) c) = fun c => ((List.range i).any (fun j => clG kind key (l.getD j default) c) || clG kind key (l.getD i default) c) from funext fun c => any_range _ i]
    by_cases hf : firstG kind key l i = true
    · rw [if_pos hf, sumC_app, ih, sum_same r (class_out h i (by omega)).2]
      refine sum_or r fun c _ h1 h2 => ?_
      obtain ⟨j, hj, h3⟩ := List.any_eq_true.1 h1
      have h4 := List.all_eq_true.1 hf j hj
      rw [clG_tr h3 (clG_sym h2)] at h4
      cases h4
    · rw [if_neg hf, ih]
      congr 1
      refine List.filter_congr fun c _ => ?_
      cases hc : clG kind key (l.getD i default) c with
      | false => simp
      | true =>
        have hf' : firstG kind key l i = false := by simpa using hf
        unfold firstG at hf'
        obtain ⟨j, hj, h1⟩ := List.all_eq_false.1 hf'
        have h2 : clG kind key (l.getD j default) (l.getD i default) = true := by simpa using h1
        rw [Bool.or_true]
        exact List.any_eq_true.2 ⟨j, hj, clG_tr h2 hc⟩
theorem parts_diff {kind key n : Int} {l : List Count} (h : (makeG kind key n l).2 = 0) : ∀ i, i ≤ l.length → ∀ c ∈ partsG kind key n l i, 0 ≤ c.diff
  | 0, _ => by intro c hc; rw [partsG] at hc; cases hc
  | i + 1, hi => by
    have ih := parts_diff h i (by omega)
    rw [partsG]
    split
    · intro c hc
      rcases List.mem_append.1 hc with hc | hc
      · exact ih c hc
      · have h1 := same_diffs (class_out h i (by omega)).2
        have h2 : c.diff ∈ (makeG kind key n (classG kind key l i)).1.map (·.diff) := List.mem_map.2 ⟨c, hc, rfl⟩
        rw [h1] at h2
        obtain ⟨d, hd, e⟩ := List.mem_map.1 h2
        have := (make_good h).2.1 d (List.mem_filter.1 hd).1
        have e : d.diff = c.diff := e
        omega
    · exact ih
theorem parts_ok {kind key n : Int} {l : List Count} (h : (makeG kind key n l).2 = 0) : (lessC (partsG kind key n l l.length)).2 = 0 ∧ sameC (lessC (partsG kind key n l l.length)).1 (makeG kind key n l).1 = true := by
  obtain ⟨g1, g2, g3⟩ := make_good h
  refine fine_small (parts_diff h _ (Nat.le_refl _)) g1 (fun c hc => by have := g2 c hc; omega) fun r => ?_
  rw [parts_sum h r _ (Nat.le_refl _)]
  congr 1
  refine List.filter_eq_self.2 fun c hc => ?_
  obtain ⟨j, hj, e⟩ := g3 c hc
  exact List.any_eq_true.2 ⟨j, List.mem_range.2 hj, e⟩
theorem ones_ok : ∀ {d : List Count}, (∀ c ∈ d, c.diff = 1) → (someG d).map (fun c => (⟨c.row, 1⟩ : Count)) = d
  | [], _ => rfl
  | x :: d, h => by
    have hx := h x (List.mem_cons_self ..)
    have ih := ones_ok fun c hc => h c (List.mem_cons_of_mem _ hc)
    unfold someG at ih ⊢
    rw [List.filter_cons_of_pos (by rw [hx]; decide), List.map_cons, ih]
    congr 1
    cases x; simp at hx; subst hx; rfl
theorem zero_short (l : List Count) : l.any (shortG 0) = false := List.any_eq_false.2 fun c _ => by unfold shortG; simp
theorem make0 {kind key n : Int} {l : List Count} (h : (makeG kind key n l).2 = 0) : makeG 0 0 0 l = ((someG (lessC l).1).map (fun c => (⟨c.row, 1⟩ : Count)), 0) := by
  obtain ⟨h1, h2, h3, h4, h5, h6⟩ := make_ok h
  rw [make_of (by decide) (by decide) (zero_short l) (by decide) h5, out0]
theorem dist_ok {kind key n : Int} {l : List Count} (h : (makeG kind key n l).2 = 0) : (makeG 0 0 0 l).2 = 0 ∧ (makeG 0 0 0 (makeG 0 0 0 l).1).2 = 0 ∧ sameC (makeG 0 0 0 l).1 (makeG 0 0 0 (makeG 0 0 0 l).1).1 = true := by
  have e := make0 h
  have h0 : (makeG 0 0 0 l).2 = 0 := by rw [e]
  obtain ⟨g1, g2, _⟩ := make_good h0
  have hone : ∀ c ∈ (makeG 0 0 0 l).1, c.diff = 1 := fun c hc => by
    rw [e] at hc
    obtain ⟨d, _, rfl⟩ := List.mem_map.1 hc; rfl
  generalize (makeG 0 0 0 l).1 = d at *
  obtain ⟨f1, f2⟩ := fine_small (l := d) (fun c hc => by rw [hone c hc]; decide) g1 (fun c hc => by have := g2 c hc; omega) fun r => rfl
  rw [make_of (by decide) (by decide) (zero_short d) (by decide) f1, out0]
  refine ⟨h0, rfl, ?_⟩
  have := same_once (same_some f2)
  rw [ones_ok hone] at this
  exact same_sym this
theorem min_top {kind key n : Int} {l : List Count} (h : (makeG kind key n l).2 = 0) (hk : kind ≠ 0) : 0 ≤ key ∧ (makeG 3 key 0 l).2 = 0 ∧ (makeG 5 key 1 l).2 = 0 ∧ sameC (makeG 3 key 0 l).1 (makeG 5 key 1 l).1 = true := by
  obtain ⟨h1, h2, h3, h4, h5, h6⟩ := make_ok h
  have hkk : keyK kind key = key := if_neg hk
  rw [hkk] at h2 h3
  have k3 : keyK 3 key = key := rfl
  have k5 : keyK 5 key = key := rfl
  rw [make_of (kind := 3) (by decide) (by rw [k3]; exact h2) (by rw [k3]; exact h3) (by decide) h5, make_of (kind := 5) (by decide) (by rw [k5]; exact h2) (by rw [k5]; exact h3) (by decide) h5, k3, k5]
  unfold outG
  obtain ⟨e1, e2⟩ := ofAll35 key.toNat (cutG (sameK key.toNat) (lessC l).1) []
  rw [← e1]
  exact ⟨by omega, e2, e2, same_refl _⟩
theorem dist_rows {kind key n : Int} {l : List Count} (h : (makeG kind key n l).2 = 0) (hr : ∀ c ∈ l, c.row.length ≤ 1000000) : ∀ c ∈ (makeG 0 0 0 l).1, c.row.length ≤ 1000000 := fun c hc => by
  rw [make0 h] at hc
  obtain ⟨h1, h2, h3, h4, h5, h6⟩ := make_ok h
  obtain ⟨x, hx, rfl⟩ := List.mem_map.1 hc
  obtain ⟨d, hd, e⟩ := (lessC_ok h5).2.2 x (some_mem x hx)
  dsimp only
  rw [← e]; exact hr d hd
/-- The law. -/
theorem law15_GroupParts (kind key n : Int) (l : List Count) (Q : PV → Mem → Prop) (h : Q (vb true) []) : Does Try.prog 5 [vi kind, vi key, vi n, .sl (l.map eC)] [] 0 Q :=
  law15_Parts kind key n l Q (fun _ h0 i hi => (class_out h0 i hi).1) (fun _ h0 => parts_ok h0) (fun hm h0 => by
    obtain ⟨a, b, c⟩ := dist_ok h0
    exact ⟨a, b, c, dist_rows h0 fun c hc => by have := (muchC_no hm).2 c hc; omega⟩) (fun _ h0 hk => min_top h0 hk) (fun h0 => make_err h0) h
end Go.V
namespace Go.V
open Go Go.RowKit Go.Proofs
set_option maxRecDepth 100000
set_option maxHeartbeats 4000000
set_option linter.unusedVariables false
set_option linter.unusedSimpArgs false
theorem check_ok {kind key n : Int} {kinds : List Int} (h : (checkG kind key n kinds).2 = 0) : ¬ (kind < 0 ∨ 6 ≤ kind) ∧ (kind ≠ 0 → 0 ≤ key ∧ key ≤ kinds.length) ∧ (kind = 2 → 0 ≤ n ∧ n < kinds.length ∧ kinds.getD n.toNat default = 0) ∧ knownG kind n = 0 ∧ (checkG kind key n kinds).1 = if kind = 1 ∨ kind = 2 then kinds.take key.toNat ++ [0] else kinds := by
  unfold checkG at h ⊢
  by_cases h1 : kind < 0 ∨ 6 ≤ kind
  · rw [if_pos h1] at h; exact absurd (show (8 : Int) = 0 from h) (by decide)
  rw [if_neg h1] at h ⊢
  by_cases h2 : kind ≠ 0 ∧ (key < 0 ∨ (kinds.length : Int) < key)
  · rw [if_pos h2] at h; exact absurd (show (9 : Int) = 0 from h) (by decide)
  rw [if_neg h2] at h ⊢
  by_cases h3 : kind = 2 ∧ (n < 0 ∨ (kinds.length : Int) ≤ n)
  · rw [if_pos h3] at h; exact absurd (show (9 : Int) = 0 from h) (by decide)
  rw [if_neg h3] at h ⊢
  by_cases h4 : kind = 2 ∧ kinds.getD n.toNat default ≠ 0
  · rw [if_pos h4] at h; exact absurd (show (80 : Int) = 0 from h) (by decide)
  rw [if_neg h4] at h ⊢
  refine ⟨h1, fun hk => by omega, fun hk => ⟨by omega, by omega, ?_⟩, ?_, ?_⟩
  · by_cases e : kinds.getD n.toNat default = 0
    · exact e
    · exact absurd ⟨hk, e⟩ h4
  · by_cases h5 : kind = 1 ∨ kind = 2
    · unfold knownG; rw [if_neg h1, if_neg (by omega)]
    · rw [if_neg h5] at h
      by_cases h6 : knownG kind n ≠ 0
      · rw [if_pos h6] at h; exact h
      · simpa using h6
  · by_cases h5 : kind = 1 ∨ kind = 2
    · rw [if_pos h5] at h ⊢
      by_cases h6 : 16 ≤ key
      · rw [if_pos h6] at h; exact absurd (show (3 : Int) = 0 from h) (by decide)
      · rw [if_neg h6, if_pos h5]
    · rw [if_neg h5] at h ⊢
      by_cases h6 : knownG kind n ≠ 0
      · rw [if_pos h6] at h; exact absurd h h6
      · rw [if_neg h6, if_neg h5]
theorem lessG_err (l : List Count) : ∀ (f : Nat) (ds : List Bool) (acc : List Count), (lessG l f ds acc).2 = 0 ∨ (lessG l f ds acc).2 = 60
  | 0, _, _ => .inl rfl
  | f + 1, ds, acc => by
    rw [lessG]
    split
    · exact .inl rfl
    split
    · exact .inr rfl
    · exact lessG_err l f _ _
theorem over_two (n : Int) : (over n).2 = 0 ∨ (over n).2 = 60 := by unfold over; split <;> simp
theorem sumW_err : ∀ (l : List Int) (n : Int), (sumW l n).2 = 0 ∨ (sumW l n).2 = 60
  | [], _ => .inl rfl
  | x :: l, n => by
    rw [sumW]
    split
    · exact over_two _
    · exact sumW_err l _
theorem dotW_err : ∀ (l k : List Int) (n : Int), (dotW l k n).2 = 0 ∨ (dotW l k n).2 = 60
  | [], _, _ => by simp [dotW]
  | _ :: _, [], _ => by simp [dotW]
  | x :: l, y :: k, n => by
    rw [dotW]
    split
    · exact over_two _
    split
    · exact over_two _
    · exact dotW_err l k _
theorem fits_get : ∀ {r : List Val} {l : List Int}, fitsR r l = true → ∀ i, i < l.length → (r.getD i default).kind = l.getD i default
  | [], [], _, i, h => by simp at h
  | [], _ :: _, h, _, _ => by cases h
  | _ :: _, [], h, _, _ => by cases h
  | v :: r, k :: l, h, i, hi => by
    simp only [fitsR, Bool.and_eq_true, beq_iff_eq] at h
    cases i with
    | zero => exact h.1
    | succ i => rw [List.getD_cons_succ, List.getD_cons_succ]; exact fits_get h.2 i (by simpa using hi)
theorem fits_take : ∀ (k : Nat) {r : List Val} {l : List Int} (v : Val), fitsR r l = true → v.kind = 0 → fitsR (r.take k ++ [v]) (l.take k ++ [0]) = true
  | 0, r, l, v, _, hv => by simp [fitsR, hv]
  | k + 1, [], [], v, _, hv => by simp [fitsR, hv]
  | k + 1, [], _ :: _, _, h, _ => by cases h
  | k + 1, _ :: _, [], _, h, _ => by cases h
  | k + 1, x :: r, y :: l, v, h, hv => by
    simp only [fitsR, Bool.and_eq_true, beq_iff_eq] at h
    rw [List.take_succ_cons, List.take_succ_cons, List.cons_append, List.cons_append]
    simp only [fitsR, Bool.and_eq_true, beq_iff_eq]
    exact ⟨h.1, fits_take k v h.2 hv⟩
theorem colE_fits {kinds : List Int} {n : Int} (h0 : 0 ≤ n) (h1 : n < kinds.length) (h2 : kinds.getD n.toNat default = 0) : ∀ {p : List Count}, (∀ c ∈ p, fitsR c.row kinds = true) → colE n p = 0
  | [], _ => rfl
  | c :: p, h => by
    have hc := h c (List.mem_cons_self ..)
    have hl := fitsR_len _ _ hc
    rw [colE, if_neg (by omega), if_neg (by rw [fits_get hc n.toNat (by omega), h2]; simp)]
    exact colE_fits h0 h1 h2 fun d hd => h d (List.mem_cons_of_mem _ hd)
theorem ofG_err {kind n : Int} {kinds : List Int} {K : List Val} {p : List Count} (h2 : kind = 2 → 0 ≤ n ∧ n < kinds.length ∧ kinds.getD n.toNat default = 0) (hp : ∀ c ∈ p, fitsR c.row kinds = true) : (ofG kind n K p).2 = 0 ∨ (ofG kind n K p).2 = 60 := by
  unfold ofG
  split
  · unfold countG
    split
    · exact sumW_err _ _
    · exact .inl rfl
  split
  · rename_i hk
    obtain ⟨a, b, c⟩ := h2 hk
    unfold sumG
    rw [colE_fits a b c hp, if_neg (by decide)]
    split
    · exact dotW_err _ _ _
    · exact .inl rfl
  split
  · exact .inl rfl
  split
  · exact .inl rfl
  split <;> exact .inl rfl
theorem ofAll_two (kind n : Int) (k : Nat) : ∀ (ps : List (List Count)) (acc : List Count), (∀ p ∈ ps, ∀ K, (ofG kind n K p).2 = 0 ∨ (ofG kind n K p).2 = 60) → (ofAll kind n k ps acc).2 = 0 ∨ (ofAll kind n k ps acc).2 = 60
  | [], _, _ => .inl rfl
  | p :: ps, acc, h => by
    rw [ofAll]
    split
    · exact h p (List.mem_cons_self ..) _
    · exact ofAll_two kind n k ps _ fun q hq => h q (List.mem_cons_of_mem _ hq)
theorem ofAll_rows (kind n : Int) (k : Nat) : ∀ (ps : List (List Count)) (acc : List Count), ∀ c ∈ (ofAll kind n k ps acc).1, c ∈ acc ∨ ∃ p ∈ ps, c ∈ (ofG kind n ((p.getD 0 default).row.take k) p).1
  | [], acc => fun c hc => .inl hc
  | p :: ps, acc => by
    intro c hc
    rw [ofAll] at hc
    split at hc
    · cases hc
    · rcases ofAll_rows kind n k ps _ c hc with h | ⟨q, hq, h⟩
      · rcases List.mem_append.1 h with h | h
        · exact .inl h
        · exact .inr ⟨p, List.mem_cons_self .., h⟩
      · exact .inr ⟨q, List.mem_cons_of_mem _ hq, h⟩
theorem topG_rows : ∀ (n : Int) (l : List Count), ∀ c ∈ topG n l, ∃ d ∈ l, d.row = c.row
  | _, [] => by intro c hc; rw [topG] at hc; cases hc
  | n, x :: l => by
    intro c hc
    rw [topG] at hc
    split at hc
    · cases hc
    · rcases List.mem_cons.1 hc with rfl | hc
      · exact ⟨x, List.mem_cons_self .., rfl⟩
      · obtain ⟨d, h1, h2⟩ := topG_rows _ l c hc
        exact ⟨d, List.mem_cons_of_mem _ h1, h2⟩
theorem ofG_rows {kind n : Int} {K : List Val} {p : List Count} : ∀ c ∈ (ofG kind n K p).1, (kind = 1 ∨ kind = 2 → ∃ v : Val, v.kind = 0 ∧ c.row = K ++ [v]) ∧ (¬ (kind = 1 ∨ kind = 2) → ∃ d ∈ p, d.row = c.row) := by
  intro c hc
  have one : ∀ m : Int, c ∈ onceG (K ++ [⟨0, m, strE⟩]) → ∃ v : Val, v.kind = 0 ∧ c.row = K ++ [v] := fun m h => by
    have : c = ⟨K ++ [⟨0, m, strE⟩], 1⟩ := by simpa [onceG] using h
    subst this; exact ⟨_, rfl, rfl⟩
  unfold ofG at hc
  split at hc
  · rename_i hk
    refine ⟨fun _ => ?_, fun h => absurd (.inl hk) h⟩
    unfold countG at hc
    split at hc
    · cases hc
    · exact one _ hc
  split at hc
  · rename_i hk
    refine ⟨fun _ => ?_, fun h => absurd (.inr hk) h⟩
    unfold sumG at hc
    split at hc
    · cases hc
    split at hc
    · cases hc
    · exact one _ hc
  rename_i h1 h2
  refine ⟨fun h => by rcases h with h | h <;> contradiction, fun _ => ?_⟩
  split at hc
  · obtain ⟨d, hd, e⟩ := topG_rows _ _ c hc
    exact ⟨d, some_mem d (List.mem_reverse.1 (List.mem_of_mem_take hd)), e⟩
  split at hc
  · obtain ⟨d, hd, e⟩ := topG_rows _ _ c hc
    exact ⟨d, some_mem d (List.mem_of_mem_take hd), e⟩
  split at hc
  · obtain ⟨d, hd, e⟩ := topG_rows _ _ c hc
    exact ⟨d, some_mem d hd, e⟩
  · obtain ⟨d, hd, rfl⟩ := List.mem_map.1 hc
    exact ⟨d, some_mem d hd, rfl⟩
theorem neat_get : ∀ {a : List Count}, Neat a → ∀ i, 0 < i → i < a.length → orderR (a.getD (i - 1) default).row (a.getD i default).row < 0
  | [], _, _, _, h => by simp at h
  | x :: a, hn, i, h0, h => by
    obtain ⟨q, rfl⟩ : ∃ q, i = q + 1 := ⟨i - 1, by omega⟩
    rw [List.getD_cons_succ, show q + 1 - 1 = q from rfl]
    cases q with
    | zero => exact hn.2.1 _ (getD_mem' a 0 (by simpa using h))
    | succ q => 
      rw [List.getD_cons_succ]
      exact neat_get hn.2.2 (q + 1) (by omega) (by simpa using h)
theorem fits_short {kind key n : Int} {kinds : List Int} {l : List Count} (hc : (checkG kind key n kinds).2 = 0) (hf : ∀ c ∈ l, fitsR c.row kinds = true) : ¬ keyK kind key < 0 ∧ l.any (shortG (keyK kind key)) = false := by
  obtain ⟨h1, h2, _⟩ := check_ok hc
  unfold keyK
  by_cases hk : kind = 0
  · rw [if_pos hk]; exact ⟨by decide, zero_short l⟩
  · rw [if_neg hk]
    obtain ⟨a, b⟩ := h2 hk
    refine ⟨by omega, List.any_eq_false.2 fun c hcm => ?_⟩
    have := fitsR_len _ _ (hf c hcm)
    unfold shortG
    simp only [decide_eq_true_eq]; omega
theorem fits_rows {kinds : List Int} {l : List Count} (h0 : (lessC l).2 = 0) (hf : ∀ c ∈ l, fitsR c.row kinds = true) : ∀ c ∈ (lessC l).1, fitsR c.row kinds = true := fun c hc => by
  obtain ⟨d, hd, e⟩ := (lessC_ok h0).2.2 c hc
  rw [← e]; exact hf d hd
/-- The law. -/
theorem law15_GroupFits (kind key n : Int) (kinds : List Int) (l : List Count) (Q : PV → Mem → Prop) (h : Q (vb true) []) : Does Try.prog 6 [vi kind, vi key, vi n, .sl (kinds.map eI), .sl (l.map eC)] [] 0 Q :=
  law15_Fits kind key n kinds l Q (fun _ _ hc hf hm => by
    refine ⟨?_, make_err hm⟩
    obtain ⟨c1, c2, c3, c4, _⟩ := check_ok hc
    obtain ⟨s1, s2⟩ := fits_short hc hf
    by_cases h5 : (lessC l).2 = 0
    · rw [make_of c1 s1 s2 c4 h5] at hm ⊢
      rcases ofAll_two kind n (keyK kind key).toNat (cutG (sameK (keyK kind key).toNat) (lessC l).1) [] (fun p hp K => ofG_err c3 fun c hcm => fits_rows h5 hf c (piece_mem hp c hcm)) with e | e
      · exact absurd e hm
      · exact e
    · unfold makeG at hm ⊢
      rw [if_neg c1, if_neg (notbad s1 s2), if_neg (not_not_intro c4), if_pos h5]
      rcases lessG_err l (l.length + 1) (List.replicate l.length false) [] with e | e
      · exact absurd e h5
      · exact e) (fun _ _ hc hf hm i hi => by
    obtain ⟨c1, c2, c3, c4, c5⟩ := check_ok hc
    obtain ⟨g1, g2, _⟩ := make_good hm
    obtain ⟨h1, h2, h3, h4, h5, h6⟩ := make_ok hm
    have him := getD_mem' (makeG kind key n l).1 i hi
    refine ⟨?_, (g2 _ him).1, fun h0 => neat_get g1 i h0 hi⟩
    rw [c5]
    rw [h6] at him
    rcases ofAll_rows kind n _ _ _ _ him with hh | ⟨p, hp, hh⟩
    · cases hh
    rw [← h6] at hh
    obtain ⟨r1, r2⟩ := ofG_rows _ hh
    by_cases hk : kind = 1 ∨ kind = 2
    · rw [if_pos hk]
      obtain ⟨v, hv, e⟩ := r1 hk
      have hpn : p ≠ [] := cutG_ne _ _ _ (Nat.le_refl _) p hp
      have hp0 := getD_mem' p 0 (List.length_pos_iff.2 hpn)
      have hkk : keyK kind key = key := if_neg (by omega)
      rw [e, hkk]
      exact fits_take _ v (fits_rows h5 hf _ (piece_mem hp _ hp0)) hv
    · rw [if_neg hk]
      obtain ⟨d, hd, e⟩ := r2 hk
      rw [← e]; exact fits_rows h5 hf d (piece_mem hp d hd)) h
end Go.V
