import Derived.Test.YtbccejopeclhmaaGreatSG
import Derived.Test.YtbccejopeclhmaaGreatWK
namespace Go.V
open Go Go.RowKit Go.Proofs
set_option maxRecDepth 100000
set_option maxHeartbeats 4000000
set_option linter.unusedVariables false
set_option linter.unusedSimpArgs false
/-! the definition's answer, of two lists -/
def adj (n : Int) (x : Side) : Int × Int := over (if x.away then n - x.diff else n + x.diff)
section
variable (l : List Side)
def bestS (ds : List Bool) : Nat → Int
  | 0 => -1
  | k + 1 => if ds.getD k default = false ∧ (bestS ds k < 0 ∨ cS (l.getD k default) (l.getD (bestS ds k).toNat default) < 0) then (k : Int) else bestS ds k
def sumS (b : Nat) (ds : List Bool) : Nat → Int × Int × List Bool
  | 0 => (0, 0, ds)
  | k + 1 => if (sumS b ds k).2.1 ≠ 0 then sumS b ds k else if cS (l.getD k default) (l.getD b default) ≠ 0 then sumS b ds k
    else if (adj (sumS b ds k).1 (l.getD k default)).2 ≠ 0 then (0, 60, ds) else ((adj (sumS b ds k).1 (l.getD k default)).1, 0, (sumS b ds k).2.2.set k true)
def lessSG : Nat → List Bool → List Count → List Count × Int
  | 0, _, acc => (acc, 0)
  | f + 1, ds, acc => if bestS l ds l.length < 0 then (acc, 0)
    else if (sumS l (bestS l ds l.length).toNat ds l.length).2.1 ≠ 0 then ([], 60)
    else lessSG f (sumS l (bestS l ds l.length).toNat ds l.length).2.2 (if (sumS l (bestS l ds l.length).toNat ds l.length).1 ≠ 0 then acc ++ [⟨(l.getD (bestS l ds l.length).toNat default).row, (sumS l (bestS l ds l.length).toNat ds l.length).1⟩] else acc)
def lessS : List Count × Int := lessSG l (l.length + 1) (List.replicate l.length false) []
end
theorem sidesA_get (a : List Count) (k : Nat) : (sidesA a).getD k default = ⟨(a.getD k default).row, (a.getD k default).diff, false⟩ := by
  unfold sidesA
  rw [List.getD_eq_getElem?_getD, List.getD_eq_getElem?_getD, List.getElem?_map]
  cases a[k]? <;> rfl
theorem bestS_A (a : List Count) (ds : List Bool) : ∀ k, bestS (sidesA a) ds k = bestF a ds k
  | 0 => rfl
  | k + 1 => by
    rw [bestS, bestF, bestS_A a ds k]
    simp only [cS, sidesA_get]
theorem sumS_A (a : List Count) (b : Nat) (ds : List Bool) : ∀ k, sumS (sidesA a) b ds k = sumF a b ds k
  | 0 => rfl
  | k + 1 => by
    rw [sumS, sumF, sumS_A a b ds k]
    simp only [cS, sidesA_get, adj, Bool.false_eq_true, if_false]
theorem lessSG_A (a : List Count) : ∀ (f : Nat) (ds : List Bool) (acc : List Count), lessSG (sidesA a) f ds acc = lessG a f ds acc
  | 0, _, _ => rfl
  | f + 1, ds, acc => by
    rw [lessSG, lessG, bestS_A, sidesA_len, sumS_A, lessSG_A a f]
    simp only [sidesA_get]
theorem lessS_A (a : List Count) : lessS (sidesA a) = lessC a := by
  unfold lessS lessC
  rw [lessSG_A, sidesA_len]
/-! sums -/
theorem over_err (n : Int) (h : (over n).2 ≠ 0) : (over n).2 = 60 := by
  unfold over at h ⊢
  split at h
  · exact absurd rfl h
  · rename_i hn; rw [if_neg hn]
theorem sumZ_cons (x : Side) (l : List Side) (n : Int) : sumZ (x :: l) n = if (adj n x).2 ≠ 0 then (0, 60) else sumZ l (adj n x).1 := by
  rw [sumZ]
  show (if (adj n x).2 ≠ 0 then (0, (adj n x).2) else sumZ l (adj n x).1) = _
  split
  · rename_i h; rw [show (adj n x).2 = 60 from over_err _ h]
  · rfl
theorem sumZ_snoc : ∀ (l : List Side) (x : Side) (n : Int), sumZ (l ++ [x]) n = if (sumZ l n).2 ≠ 0 then sumZ l n else if (adj (sumZ l n).1 x).2 ≠ 0 then (0, 60) else ((adj (sumZ l n).1 x).1, 0)
  | [], x, n => by
    rw [List.nil_append, sumZ_cons]
    show _ = if (0 : Int) ≠ 0 then _ else if (adj n x).2 ≠ 0 then (0, 60) else ((adj n x).1, 0)
    rw [if_neg (show ¬ (0 : Int) ≠ 0 by decide)]
    rfl
  | y :: l, x, n => by
    rw [List.cons_append, sumZ_cons, sumZ_cons]
    split
    · rw [if_pos (by decide)]
    · exact sumZ_snoc l x _
/-- Those at indices below k, in order. -/
def pick (l : List Side) (p : Nat → Bool) (k : Nat) : List Side := ((List.range k).filter p).map fun j => l.getD j default
theorem pick_succ (l : List Side) (p : Nat → Bool) (k : Nat) : pick l p (k + 1) = if p k then pick l p k ++ [l.getD k default] else pick l p k := by
  unfold pick
  rw [List.range_succ, List.filter_append, List.filter_cons, List.filter_nil]
  split <;> simp
theorem pick_pos {l : List Side} {p : Nat → Bool} {k : Nat} (h : p k = true) : pick l p (k + 1) = pick l p k ++ [l.getD k default] := by rw [pick_succ, if_pos h]
theorem pick_neg {l : List Side} {p : Nat → Bool} {k : Nat} (h : ¬ p k = true) : pick l p (k + 1) = pick l p k := by rw [pick_succ, if_neg h]
theorem sumS_is (l : List Side) (b : Nat) (ds : List Bool) : ∀ k, ((sumS l b ds k).1, (sumS l b ds k).2.1) = sumZ (pick l (fun j => cS (l.getD j default) (l.getD b default) == 0) k) 0
  | 0 => rfl
  | k + 1 => by
    have ih := sumS_is l b ds k
    have e1 : (sumS l b ds k).1 = (sumZ (pick l (fun j => cS (l.getD j default) (l.getD b default) == 0) k) 0).1 := by rw [← ih]
    have e2 : (sumS l b ds k).2.1 = (sumZ (pick l (fun j => cS (l.getD j default) (l.getD b default) == 0) k) 0).2 := by rw [← ih]
    rw [sumS]
    have hz : cS (l.getD k default) (l.getD b default) = 0 → ((fun j => cS (l.getD j default) (l.getD b default) == 0) k) = true := fun h => beq_iff_eq.2 h
    have hn : cS (l.getD k default) (l.getD b default) ≠ 0 → ¬ ((fun j => cS (l.getD j default) (l.getD b default) == 0) k) = true := fun h h' => h (beq_iff_eq.1 h')
    by_cases h2 : cS (l.getD k default) (l.getD b default) = 0
    · rw [pick_pos (hz h2), sumZ_snoc, ← e1, ← e2, if_neg (not_not_intro h2)]
      by_cases h1 : (sumS l b ds k).2.1 ≠ 0
      · rw [if_pos h1, if_pos h1]; exact ih
      · rw [if_neg h1, if_neg h1]
        split <;> rfl
    · rw [pick_neg (hn h2), if_pos h2]
      split <;> exact ih
theorem sumS_done (l : List Side) (b : Nat) (ds : List Bool) : ∀ k, k ≤ ds.length → (sumS l b ds k).2.1 = 0 → (sumS l b ds k).2.2.length = ds.length ∧ ∀ j, (sumS l b ds k).2.2.getD j default = (ds.getD j default || (decide (j < k) && (cS (l.getD j default) (l.getD b default) == 0)))
  | 0, _, _ => ⟨rfl, fun j => by simp [sumS]⟩
  | k + 1, hk, h => by
    rw [sumS] at h ⊢
    by_cases h1 : (sumS l b ds k).2.1 ≠ 0
    · rw [if_pos h1] at h; exact absurd h h1
    · rw [if_neg h1] at h ⊢
      obtain ⟨e1, e2⟩ := sumS_done l b ds k (by omega) (by simpa using h1)
      by_cases h2 : cS (l.getD k default) (l.getD b default) = 0
      · rw [if_neg (not_not_intro h2)] at h ⊢
        split at h
        · exact absurd (show (60 : Int) = 0 from h) (by decide)
        · rename_i h3
          rw [if_neg h3]
          refine ⟨by rw [List.length_set]; exact e1, fun j => ?_⟩
          show ((sumS l b ds k).2.2.set k true).getD j default = _
          rw [getD_set _ _ _ _ (by omega)]
          by_cases hj : k = j
          · subst hj; rw [if_pos rfl, h2]; simp
          · rw [if_neg hj, e2 j]
            have : decide (j < k) = decide (j < k + 1) := by simp; omega
            rw [this]
      · rw [if_pos h2] at h ⊢
        refine ⟨e1, fun j => ?_⟩
        rw [e2 j]
        by_cases hj : j = k
        · subst hj; rw [show (cS (l.getD j default) (l.getD b default) == 0) = false from beq_eq_false_iff_ne.2 h2]; simp
        · have : decide (j < k) = decide (j < k + 1) := by simp; omega
          rw [this]
/-! the least one -/
theorem bestS_spec (l : List Side) (ds : List Bool) : ∀ k, (bestS l ds k < 0 ∧ ∀ j, j < k → ds.getD j default = true) ∨ ∃ i : Nat, bestS l ds k = (i : Int) ∧ i < k ∧ ds.getD i default = false ∧ ∀ j, j < k → ds.getD j default = false → cS (l.getD i default) (l.getD j default) ≤ 0 ∧ (j < i → cS (l.getD i default) (l.getD j default) < 0)
  | 0 => .inl ⟨by rw [bestS]; decide, fun j h => absurd h (Nat.not_lt_zero _)⟩
  | k + 1 => by
    rw [bestS]
    rcases bestS_spec l ds k with ⟨h1, h2⟩ | ⟨i, h1, h2, h3, h4⟩
    · by_cases hk : ds.getD k default = false
      · rw [if_pos ⟨hk, .inl h1⟩]
        refine .inr ⟨k, rfl, by omega, hk, fun j hj hf => ?_⟩
        by_cases e : j = k
        · subst e; have := ord_S'.self (l.getD j default); exact ⟨by omega, fun h => absurd h (by omega)⟩
        · have := h2 j (by omega); rw [this] at hf; cases hf
      · rw [if_neg (fun h => hk h.1)]
        refine .inl ⟨h1, fun j hj => ?_⟩
        by_cases e : j = k
        · subst e; simpa using hk
        · exact h2 j (by omega)
    · rw [h1, Int.toNat_natCast]
      by_cases hc : ds.getD k default = false ∧ ((i : Int) < 0 ∨ cS (l.getD k default) (l.getD i default) < 0)
      · rw [if_pos hc]
        have hlt : cS (l.getD k default) (l.getD i default) < 0 := hc.2.resolve_left (by omega)
        refine .inr ⟨k, rfl, by omega, hc.1, fun j hj hf => ?_⟩
        by_cases e : j = k
        · subst e; have := ord_S'.self (l.getD j default); exact ⟨by omega, fun h => absurd h (by omega)⟩
        · have := ord_S'.lt_le hlt (h4 j (by omega) hf).1
          exact ⟨by omega, fun _ => this⟩
      · rw [if_neg hc]
        refine .inr ⟨i, rfl, by omega, h3, fun j hj hf => ?_⟩
        by_cases e : j = k
        · subst e
          have hn : ¬ cS (l.getD j default) (l.getD i default) < 0 := fun h => hc ⟨hf, .inr h⟩
          have := ord_S'.anti (l.getD i default) (l.getD j default)
          exact ⟨by omega, fun h => absurd h (by omega)⟩
        · exact h4 j (by omega) hf
/-! the two, side by side -/
def rem (l : List Side) (ds : List Bool) : List Side := pick l (fun j => !ds.getD j default) l.length
theorem pick_filter (l : List Side) (p : Nat → Bool) (q : Side → Bool) (k : Nat) : (pick l p k).filter q = pick l (fun j => p j && q (l.getD j default)) k := by
  unfold pick
  rw [List.filter_map, List.filter_filter]
  congr 1
  exact List.filter_congr fun j _ => Bool.and_comm _ _
theorem mem_pick {l : List Side} {p : Nat → Bool} {k : Nat} {x : Side} : x ∈ pick l p k ↔ ∃ j, j < k ∧ p j = true ∧ x = l.getD j default := by
  unfold pick
  simp only [List.mem_map, List.mem_filter, List.mem_range]
  constructor
  · rintro ⟨j, ⟨h1, h2⟩, rfl⟩; exact ⟨j, h1, h2, rfl⟩
  · rintro ⟨j, h1, h2, rfl⟩; exact ⟨j, ⟨h1, h2⟩, rfl⟩
/-- In order, one by one. -/
def Ord1 (r : List Side) : Prop := r.Pairwise fun x y => cS x y ≤ 0
theorem hd_filter {x : Side} : ∀ {r : List Side}, Ord1 (x :: r) → r.takeWhile (fun y => cS x y == 0) = r.filter (fun y => cS x y == 0) ∧ r.dropWhile (fun y => cS x y == 0) = r.filter (fun y => !(cS x y == 0))
  | [], _ => ⟨rfl, rfl⟩
  | y :: r, h => by
    have h2 := List.pairwise_cons.1 h
    have h3 := List.pairwise_cons.1 h2.2
    rw [List.takeWhile_cons, List.dropWhile_cons, List.filter_cons, List.filter_cons]
    cases hy : (cS x y == 0) with
    | true =>
      have hx : Ord1 (x :: r) := List.pairwise_cons.2 ⟨fun z hz => h2.1 z (List.mem_cons_of_mem _ hz), h3.2⟩
      obtain ⟨e1, e2⟩ := hd_filter hx
      simp [e1, e2]
    | false =>
      have hlt : cS x y < 0 := by
        have := h2.1 y List.mem_cons_self
        have : cS x y ≠ 0 := by simpa using hy
        omega
      have hall : ∀ z ∈ r, cS x z < 0 := fun z hz => ord_S'.lt_le hlt (h3.1 z hz)
      have f1 : r.filter (fun y => cS x y == 0) = [] := List.filter_eq_nil_iff.2 fun z hz => by have := hall z hz; simp; omega
      have f2 : r.filter (fun y => !(cS x y == 0)) = r := List.filter_eq_self.2 fun z hz => by have := hall z hz; simp; omega
      simp [f1, f2]
theorem head_filter {x : Side} {r : List Side} (p : Side → Bool) (hx : p x = true) : ((x :: r).filter p).head? = some x := by rw [List.filter_cons, if_pos hx]; rfl
theorem pick_congr {l : List Side} {p q : Nat → Bool} {k : Nat} (h : ∀ j, j < k → p j = q j) : pick l p k = pick l q k := by
  unfold pick
  rw [List.filter_congr fun j hj => h j (List.mem_range.1 hj)]
theorem pick_head {l : List Side} {p : Nat → Bool} {i : Nat} (hi : p i = true) (hn : ∀ j, j < i → p j = false) : ∀ k, i < k → (pick l p k).head? = some (l.getD i default)
  | 0, h => absurd h (Nat.not_lt_zero _)
  | k + 1, h => by
    by_cases e : i = k
    · subst e
      have : pick l p i = [] := by
        unfold pick
        rw [List.filter_eq_nil_iff.2 (fun j hj => by rw [hn j (List.mem_range.1 hj)]; simp)]; rfl
      rw [pick_pos hi, this]; rfl
    · have ih := pick_head (l := l) hi hn k (by omega)
      rw [pick_succ]
      split
      · cases hp : pick l p k with
        | nil => rw [hp] at ih; cases ih
        | cons y ys => rw [hp] at ih; rw [List.cons_append]; exact ih
      · exact ih
theorem pick_all (l : List Side) : pick l (fun _ => true) l.length = l := by
  unfold pick
  rw [List.filter_eq_self.2 (fun _ _ => rfl)]
  apply List.ext_getElem
  · simp
  · intro i h1 h2
    simp [List.getD_eq_getElem?_getD, h2]
theorem sumZ_err : ∀ (l : List Side) (n : Int), (sumZ l n).2 = 0 ∨ (sumZ l n).2 = 60
  | [], _ => .inl rfl
  | x :: l, n => by
    rw [sumZ_cons]
    split
    · exact .inr rfl
    · exact sumZ_err l _
structure Sim (l r : List Side) (ds : List Bool) : Prop where
  len : ds.length = l.length
  ord : Ord1 r
  seq : ∀ y, r.filter (fun z => cS y z == 0) = (rem l ds).filter (fun z => cS y z == 0)
  clos : ∀ j k, j < l.length → k < l.length → ds.getD j default = true → cS (l.getD j default) (l.getD k default) = 0 → ds.getD k default = true
theorem beq_self_S (x : Side) : (cS x x == 0) = true := beq_iff_eq.2 (ord_S'.self x)
theorem Sim.mem {l r : List Side} {ds : List Bool} (h : Sim l r ds) {y : Side} : y ∈ r ↔ y ∈ rem l ds := by
  have e := h.seq y
  constructor
  · intro hy
    have : y ∈ r.filter (fun z => cS y z == 0) := List.mem_filter.2 ⟨hy, beq_self_S y⟩
    rw [e] at this
    exact (List.mem_filter.1 this).1
  · intro hy
    have : y ∈ (rem l ds).filter (fun z => cS y z == 0) := List.mem_filter.2 ⟨hy, beq_self_S y⟩
    rw [← e] at this
    exact (List.mem_filter.1 this).1
theorem less_main (l : List Side) : ∀ (f : Nat) (r : List Side) (ds : List Bool) (acc : List Count), r.length < f → Sim l r ds → lessZ r acc = lessSG l f ds acc
  | 0, _, _, _, h, _ => absurd h (Nat.not_lt_zero _)
  | f + 1, r, ds, acc, hf, h => by
    rw [lessSG]
    rcases bestS_spec l ds l.length with ⟨h1, h2⟩ | ⟨i, h1, h2, h3, h4⟩
    · rw [if_pos h1]
      have hr : r = [] := by
        rcases r with _ | ⟨x, r⟩
        · rfl
        · obtain ⟨j, hj, hp, _⟩ := mem_pick.1 (h.mem.1 (List.mem_cons_self (a := x) (l := r)))
          rw [h2 j hj] at hp; cases hp
      subst hr
      rw [lessZ]
    · rw [h1, if_neg (by omega), Int.toNat_natCast]
      have hi : l.getD i default ∈ r := h.mem.2 (mem_pick.2 ⟨i, h2, by rw [h3]; rfl, rfl⟩)
      rcases r with _ | ⟨x, r⟩
      · cases hi
      have ho := List.pairwise_cons.1 h.ord
      obtain ⟨j0, hj0, hp0, hx0⟩ := mem_pick.1 (h.mem.1 (List.mem_cons_self (a := x) (l := r)))
      have c1 : cS x (l.getD i default) ≤ 0 := by
        rcases List.mem_cons.1 hi with e | hi
        · rw [e, ord_S'.self]; exact Int.le_refl _
        · exact ho.1 _ hi
      have c2 : cS (l.getD i default) x ≤ 0 := by rw [hx0]; exact (h4 j0 hj0 (by simpa using hp0)).1
      have c3 : cS x (l.getD i default) = 0 := by have := ord_S'.anti x (l.getD i default); omega
      have hseq := h.seq x
      have hpk : (rem l ds).filter (fun z => cS x z == 0) = pick l (fun j => !ds.getD j default && (cS x (l.getD j default) == 0)) l.length := pick_filter _ _ _ _
      have hxi : x = l.getD i default := by
        have e1 := head_filter (r := r) (fun z => cS x z == 0) (beq_self_S x)
        rw [hseq, hpk, pick_head (i := i) (by rw [h3, c3]; rfl) (fun j hj => ?_) _ h2] at e1
        · exact (Option.some.inj e1).symm
        · cases hd : ds.getD j default with
          | true => rfl
          | false =>
            have h5 := (h4 j (by omega) hd).2 hj
            have h6 := ord_S'.le_lt (Int.le_of_eq c3) h5
            rw [show (cS x (l.getD j default) == 0) = false from beq_eq_false_iff_ne.2 (by omega)]; rfl
      have hcl : ∀ j, j < l.length → (!ds.getD j default && (cS x (l.getD j default) == 0)) = (cS (l.getD j default) (l.getD i default) == 0) := fun j hj => by
        rw [Bool.eq_iff_iff, Bool.and_eq_true, beq_iff_eq, beq_iff_eq, hxi]
        constructor
        · rintro ⟨_, h5⟩; exact ord_S'.sym h5
        · intro h5
          refine ⟨?_, ord_S'.sym h5⟩
          cases hd : ds.getD j default with
          | false => rfl
          | true => have := h.clos j i hj h2 hd h5; rw [h3] at this; cases this
      obtain ⟨t1, t2⟩ := hd_filter h.ord
      have hhd : hd cS x r = pick l (fun j => cS (l.getD j default) (l.getD i default) == 0) l.length := by
        unfold hd
        rw [t1, ← pick_congr hcl, ← hpk, ← hseq, List.filter_cons, if_pos (beq_self_S x)]
      have hsum := sumS_is l i ds l.length
      have s1 : (sumS l i ds l.length).1 = (sumZ (hd cS x r) 0).1 := by rw [hhd, ← hsum]
      have s2 : (sumS l i ds l.length).2.1 = (sumZ (hd cS x r) 0).2 := by rw [hhd, ← hsum]
      rw [lessZ, s1, s2]
      by_cases he : (sumZ (hd cS x r) 0).2 = 0
      · rw [if_neg (not_not_intro he), if_neg (not_not_intro he), ← hxi]
        obtain ⟨d1, d2⟩ := sumS_done l i ds l.length (by rw [h.len]; exact Nat.le_refl _) (by rw [s2]; exact he)
        have hrem : rem l (sumS l i ds l.length).2.2 = (rem l ds).filter (fun z => !(cS x z == 0)) := by
          unfold rem
          rw [pick_filter]
          refine pick_congr fun j hj => ?_
          rw [d2 j, Bool.not_or, decide_eq_true hj, Bool.true_and, ← hcl j hj]
          cases ds.getD j default <;> simp
        have htl : tl cS x r = (x :: r).filter (fun z => !(cS x z == 0)) := by
          unfold tl
          rw [t2, List.filter_cons, if_neg (by rw [beq_self_S]; decide)]
        refine less_main l f (tl cS x r) _ _ (by have := tl_len cS x r; simp at hf; omega) ⟨d1.trans h.len, ?_, fun y => ?_, fun j k hj hk hd1 hc => ?_⟩
        · rw [htl]; exact List.Pairwise.filter _ h.ord
        · rw [htl, hrem, List.filter_filter, List.filter_filter]
          have e := congrArg (List.filter (fun z => !(cS x z == 0))) (h.seq y)
          rw [List.filter_filter, List.filter_filter] at e
          rw [List.filter_congr (q := fun z => !(cS x z == 0) && (cS y z == 0)) fun z _ => Bool.and_comm _ _, e]
          exact List.filter_congr fun z _ => Bool.and_comm _ _
        · rw [d2, decide_eq_true hj, Bool.true_and, Bool.or_eq_true] at hd1
          rw [d2, decide_eq_true hk, Bool.true_and, Bool.or_eq_true]
          rcases hd1 with hd1 | hd1
          · exact .inl (h.clos j k hj hk hd1 hc)
          · exact .inr (beq_iff_eq.2 (ord_S'.eq_tr (ord_S'.sym hc) (beq_iff_eq.1 hd1)))
      · rw [if_pos he, if_pos he, (sumZ_err (hd cS x r) 0).resolve_left he]
theorem less_eq {l l2 : List Side} (t : Stab cS 0 l.length l l2) (u : Srt cS l2 0 l.length) : lessZ l2 [] = lessS l := by
  unfold lessS
  refine less_main l _ l2 _ [] (by have := t.len; omega) ⟨by simp, ?_, fun y => ?_, fun j k hj hk hd1 _ => ?_⟩
  · refine List.pairwise_iff_getElem.2 fun i j hi hj hij => ?_
    have := u i j (Nat.zero_le _) hij (by rw [← t.len]; exact hj)
    rw [List.getD_eq_getElem?_getD, List.getD_eq_getElem?_getD, List.getElem?_eq_getElem hi, List.getElem?_eq_getElem hj] at this
    exact this
  · have : rem l (List.replicate l.length false) = l := by
      unfold rem
      rw [← pick_all l]
      conv => lhs; rw [pick_all l]
      refine pick_congr fun j hj => ?_
      rw [List.getD_eq_getElem?_getD, List.getElem?_replicate]
      split <;> rfl
    rw [this]
    exact t.seq y
  · rw [List.getD_eq_getElem?_getD, List.getElem?_replicate] at hd1
    split at hd1 <;> cases hd1
theorem zset_LessS (a b : List Count) (Q : PV → Mem → Prop) (hla : a.length ≤ 1000000) (hlb : b.length ≤ 1000000) (hra : ∀ y ∈ a, y.row.length ≤ 1000000) (hrb : ∀ y ∈ b, y.row.length ≤ 1000000) (h : Q (.tup [.own 0, vi (lessS (sidesA a ++ sidesB b)).2]) [.row 61 ((lessS (sidesA a ++ sidesB b)).1.map eC)]) : Does Tryz.prog 55 [.sl (a.map eC), .sl (b.map eC)] [] 0 Q :=
  zset_Less a b Q hla hlb hra hrb fun l2 t u => by rw [less_eq t u]; exact h
theorem zset_LessC (a : List Count) (Q : PV → Mem → Prop) (hla : a.length ≤ 1000000) (hra : ∀ y ∈ a, y.row.length ≤ 1000000) (h : Q (.tup [.own 0, vi (lessC a).2]) [.row 61 ((lessC a).1.map eC)]) : Does Tryz.prog 55 [.sl (a.map eC), .val (.slice none 0 0)] [] 0 Q :=
  does_weak (zset_LessS a [] Q hla (by simp) hra (by simp) (by rw [show sidesB [] = [] from rfl, List.append_nil, lessS_A]; exact h)) (.cons (wk_refl _) (.cons wk_nil .nil))
end Go.V
