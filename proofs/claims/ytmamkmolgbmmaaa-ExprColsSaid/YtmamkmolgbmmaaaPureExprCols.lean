/- The columns that any steps look at are those of the definition. No condition beyond the statement's own. -/
import Derived.Test.YtmamkmolgbmmaaaQExprColsx8
namespace Go.Proofs.Ytmamkmolgbmmaaa.Pure
open Go.RowKit Go.Proofs.Ytmamkmolgbmmaaa.QExprCols Go.Proofs.YtmamkmolgbmmaaaW.PrintWords Go.Proofs.YtmamkmolgbmmaaaW.PrintLast

theorem w64 {x : Int} (h : -9223372036854775808 ≤ x ∧ x ≤ 9223372036854775807) : wrap64 x = x := by unfold wrap64; omega
/-- The columns that steps look at, as they come. -/
def colsP (l : List S41) : List Int := (l.filter fun t => t.f0 == 0).map (·.f1)
theorem mem_colsP {l : List S41} {x : Int} : x ∈ colsP l ↔ ∃ t ∈ l, t.f0 = 0 ∧ t.f1 = x := by
  simp only [colsP, List.mem_map, List.mem_filter, beq_iff_eq]
  exact ⟨fun ⟨t, ⟨h1, h2⟩, h3⟩ => ⟨t, h1, h2, h3⟩, fun ⟨t, h1, h2, h3⟩ => ⟨t, ⟨h1, h2⟩, h3⟩⟩
theorem rdT_get {l : List S41} {i : Int} (h0 : 0 ≤ i) (h1 : i < (l.length : Int)) : rd_T41 l i = l[i.toNat]'(by omega) := by
  unfold rd_T41
  rw [List.getD_eq_getElem?_getD, List.getElem?_eq_getElem (by omega)]; rfl
theorem rdT_mem {l : List S41} {i : Int} (h0 : 0 ≤ i) (h1 : i < (l.length : Int)) : rd_T41 l i ∈ l := by
  rw [rdT_get h0 h1]; exact List.getElem_mem _
theorem sorted_same : ∀ {a b : List Int}, a.Pairwise (· < ·) → b.Pairwise (· < ·) → (∀ x, x ∈ a ↔ x ∈ b) → a = b
  | [], [], _, _, _ => rfl
  | [], y :: b, _, _, h => absurd ((h y).2 (List.mem_cons_self)) (by simp)
  | x :: a, [], _, _, h => absurd ((h x).1 (List.mem_cons_self)) (by simp)
  | x :: a, y :: b, ha, hb, h => by
    have ha' := List.pairwise_cons.1 ha
    have hb' := List.pairwise_cons.1 hb
    have e : x = y := by
      rcases List.mem_cons.1 ((h x).1 List.mem_cons_self) with e | e
      · exact e
      · have h1 := hb'.1 x e
        rcases List.mem_cons.1 ((h y).2 List.mem_cons_self) with e2 | e2
        · exact e2.symm
        · have := ha'.1 y e2; omega
    subst e
    congr 1
    refine sorted_same ha'.2 hb'.2 fun z => ⟨fun hz => ?_, fun hz => ?_⟩
    · rcases List.mem_cons.1 ((h z).1 (List.mem_cons_of_mem _ hz)) with e | e
      · subst e; exact absurd (ha'.1 _ hz) (by omega)
      · exact e
    · rcases List.mem_cons.1 ((h z).2 (List.mem_cons_of_mem _ hz)) with e | e
      · subst e; exact absurd (hb'.1 _ hz) (by omega)
      · exact e
theorem compact_mem {zs : List Int} (x : Int) : x ∈ Lib.compact zs ↔ x ∈ zs := by
  unfold Lib.compact Lib.compactUpTo
  simp only [List.mem_map, List.mem_filter, List.mem_range]
  constructor
  · rintro ⟨j, ⟨hj, _⟩, rfl⟩
    simp [hj]
  · intro hx
    obtain ⟨i, hi, rfl⟩ := List.mem_iff_getElem.1 hx
    -- the first place at which it stands
    have key : ∀ n i (hi : i < zs.length), i ≤ n → ∃ j, (j < zs.length ∧ Lib.keeps zs.toArray j = true) ∧ zs.toArray[j]! = zs[i] := by
      intro n
      induction n with
      | zero =>
        intro i hi hn
        have : i = 0 := by omega
        subst this
        exact ⟨0, ⟨hi, by simp [Lib.keeps]⟩, by simp [hi]⟩
      | succ n ih =>
        intro i hi hn
        by_cases hk : Lib.keeps zs.toArray i = true
        · exact ⟨i, ⟨hi, hk⟩, by simp [hi]⟩
        · have h0 : i ≠ 0 := fun e => hk (by subst e; simp [Lib.keeps])
          have e : zs[i] = zs[i - 1]'(by omega) := by
            have h2 : zs.toArray[i]! = zs.toArray[i - 1]! := Classical.byContradiction fun c => hk (Lib.keeps_pos c)
            simpa [hi, show i - 1 < zs.length by omega] using h2
          obtain ⟨j, h1, h2⟩ := ih (i - 1) (by omega) (by omega)
          exact ⟨j, h1, h2.trans e.symm⟩
    exact key i i hi (Nat.le_refl _)
theorem compact_sorted {zs : List Int} (h : zs.Pairwise (· ≤ ·)) : (Lib.compact zs).Pairwise (· < ·) := by
  unfold Lib.compact Lib.compactUpTo
  rw [List.pairwise_map]
  have hp : (List.range zs.length).Pairwise (fun i j => i < j) := List.pairwise_lt_range
  have hp2 : (List.range zs.length).Pairwise (fun i j => i < j ∧ j < zs.length) := by
    refine List.Pairwise.imp_of_mem ?_ hp
    intro a b _ hb hab
    exact ⟨hab, List.mem_range.1 hb⟩
  refine List.Pairwise.imp_of_mem ?_ (hp2.filter _)
  intro i j _ hj ⟨hij, hjl⟩
  have hk := (List.mem_filter.1 hj).2
  have hj0 : j ≠ 0 := by omega
  have h1 : zs[j - 1]'(by omega) ≠ zs[j] := by
    simp only [Lib.keeps, decide_eq_true_eq] at hk
    rcases hk with hk | hk
    · exact absurd hk hj0
    · intro e
      apply hk
      simp [hjl, show j - 1 < zs.length by omega, e]
  have h2 : zs[j - 1]'(by omega) ≤ zs[j] := List.pairwise_iff_getElem.1 h (j - 1) j (by omega) hjl (by omega)
  have h3 : zs[i]'(by omega) ≤ zs[j - 1]'(by omega) := by
    by_cases e : i = j - 1
    · subst e; exact Int.le_refl _
    · exact List.pairwise_iff_getElem.1 h i (j - 1) (by omega) (by omega) (by omega)
  simp only [List.getElem!_toArray, hjl, show i < zs.length by omega, getElem!_pos]
  omega
theorem colsP_next (l : List S41) (i : Nat) (h : i < l.length) : colsP (l.take (i + 1)) = if l[i].f0 = 0 then colsP (l.take i) ++ [l[i].f1] else colsP (l.take i) := by
  unfold colsP
  rw [List.take_add_one, List.getElem?_eq_getElem h, List.filter_append, List.map_append]
  by_cases e : l[i].f0 = 0
  · rw [if_pos e]; simp [e]
  · rw [if_neg e]; simp [e]
theorem impl_cols (l : List S41) (hl : (l.length : Int) ≤ 1000) (d : Nat) : ∀ (o : List Int) (i : Nat), i ≤ l.length → l.length - i = d → o = colsP (l.take i) → Ev (fun k => expr_Cols.l0 k o l (l.length : Int) (i : Int)) (Lib.compact ((colsP l).mergeSort fun x y => decide (x ≤ y))) := by
  have hlen : ∀ n, (colsP (l.take n)).length ≤ 1000 := by
    intro n
    unfold colsP
    rw [List.length_map]
    have := List.length_filter_le (fun t : S41 => t.f0 == 0) (l.take n)
    rw [List.length_take] at this
    omega
  induction d with
  | zero =>
    intro o i hi hd ho
    have e : i = l.length := by omega
    subst e
    have hb := hlen l.length
    rw [List.take_length] at ho hb
    subst ho
    refine Ev.step (fun k => by rw [expr_Cols.l0, if_neg (by omega)]) ?_
    refine Ev.congr (f := fun _ => some (Lib.compact ((colsP l).mergeSort fun x y => decide (x ≤ y)))) (fun k => ?_) (Ev.now _)
    unfold slices_Sort_int_int.f slices_Compact_int_int.f
    rw [if_pos (by omega), Option.bind_some, if_pos (by rw [List.length_mergeSort]; omega), Option.bind_some]
  | succ d ih =>
    intro o i hi hd ho
    have hlt : i < l.length := by omega
    have e2 : wrap64 ((i : Int) + 1) = ((i + 1 : Nat) : Int) := by rw [w64 (by omega)]; rfl
    have hg : rd_T41 l (i : Int) = l[i] := by rw [rdT_get (by omega) (by omega)]; simp
    have hb := hlen i
    by_cases h : (rd_T41 l (i : Int)).f0 = 0
    · refine Ev.step (fun k => by rw [expr_Cols.l0, if_pos (by omega), if_pos (by omega), if_pos (by omega), if_pos h, if_pos (by rw [ho]; omega), e2]) (ih _ (i + 1) (by omega) (by omega) ?_)
      rw [hg] at h
      rw [ho, colsP_next l i hlt, if_pos h, hg]
    · refine Ev.step (fun k => by rw [expr_Cols.l0, if_pos (by omega), if_pos (by omega), if_pos (by omega), if_neg h, e2]) (ih _ (i + 1) (by omega) (by omega) ?_)
      rw [hg] at h
      rw [ho, colsP_next l i hlt, if_neg h]
/-- What the definition's rounds keep. -/
structure Told (l : List S41) (o : List Int) : Prop where
  up : o.Pairwise (· < ·)
  sub : ∀ x ∈ o, x ∈ colsP l
  all : ∀ x ∈ colsP l, x ∈ o ∨ ∀ y ∈ o, y < x
theorem last_is {o : List Int} (h : o.Pairwise (· < ·)) (hn : o ≠ []) (x : Int) : (x > rd o ((o.length : Int) - 1)) ↔ ∀ y ∈ o, y < x := by
  have hl : 0 < o.length := List.length_pos_iff.2 hn
  have e : rd o ((o.length : Int) - 1) = o[o.length - 1]'(by omega) := by
    unfold rd
    rw [List.getD_eq_getElem?_getD, show ((o.length : Int) - 1).toNat = o.length - 1 by omega, List.getElem?_eq_getElem (by omega)]; rfl
  rw [e]
  constructor
  · intro hx y hy
    obtain ⟨i, hi, rfl⟩ := List.mem_iff_getElem.1 hy
    by_cases hi2 : i = o.length - 1
    · subst hi2; exact hx
    · have := List.pairwise_iff_getElem.1 h i (o.length - 1) hi (by omega) (by omega)
      omega
  · intro hx
    exact hx _ (List.getElem_mem _)

/-- The inner round: the best place up to i. -/
def Best (l : List S41) (o : List Int) (best : Int) (i : Nat) : Prop :=
  (best = -1 ∧ ∀ j (h : j < l.length), j < i → l[j].f0 = 0 → ¬ ∀ y ∈ o, y < l[j].f1) ∨
  ∃ (b : Nat) (hb : b < l.length), best = (b : Int) ∧ l[b].f0 = 0 ∧ (∀ y ∈ o, y < l[b].f1) ∧ ∀ j (h : j < l.length), j < i → l[j].f0 = 0 → (∀ y ∈ o, y < l[j].f1) → l[b].f1 ≤ l[j].f1
theorem ref_inner (l : List S41) (hl : (l.length : Int) ≤ 1000) (o : List Int) (ho : Told l o) (hol : (o.length : Int) ≤ 1000) (r : List Int) (hend : (∀ x ∈ colsP l, ¬ ∀ y ∈ o, y < x) → r = o)
    (hnext : ∀ t ∈ l, t.f0 = 0 → (∀ y ∈ o, y < t.f1) → (∀ x ∈ colsP l, (∀ y ∈ o, y < x) → t.f1 ≤ x) → Ev (fun k => runnelref08_Cols.l0 k l (o ++ [t.f1])) r) (d : Nat) :
    ∀ (best : Int) (i : Nat), i ≤ l.length → l.length - i = d → Best l o best i → Ev (fun k => runnelref08_Cols.l1 k l o best (i : Int)) r := by
  induction d with
  | zero =>
    intro best i hi hd hb
    have e : i = l.length := by omega
    subst e
    rcases hb with ⟨rfl, hb⟩ | ⟨b, hbl, rfl, hb0, hb1, hb2⟩
    · refine Ev.step (fun k => by rw [runnelref08_Cols.l1, if_neg (by omega), if_pos (by omega)]) ?_
      have : r = o := hend (by
        intro x hx hc
        obtain ⟨t, ht, h0, rfl⟩ := mem_colsP.1 hx
        obtain ⟨j, hj, rfl⟩ := List.mem_iff_getElem.1 ht
        exact hb j hj hj h0 hc)
      rw [this]; exact Ev.now _
    · have hg : rd_T41 l (b : Int) = l[b] := by rw [rdT_get (by omega) (by omega)]; simp
      refine Ev.step (fun k => by rw [runnelref08_Cols.l1, if_neg (by omega), if_neg (by omega), if_pos (by omega), if_pos (by omega), if_pos (by omega), hg]) (hnext l[b] (List.getElem_mem _) hb0 hb1 ?_)
      intro x hx hc
      obtain ⟨t, ht, h0, rfl⟩ := mem_colsP.1 hx
      obtain ⟨j, hj, rfl⟩ := List.mem_iff_getElem.1 ht
      exact hb2 j hj hj h0 hc
  | succ d ih =>
    intro best i hi hd hb
    have hlt : i < l.length := by omega
    have e2 : wrap64 ((i : Int) + 1) = ((i + 1 : Nat) : Int) := by rw [w64 (by omega)]; rfl
    have hg : rd_T41 l (i : Int) = l[i] := by rw [rdT_get (by omega) (by omega)]; simp
    have up : ∀ {j : Nat}, j < i + 1 → j ≠ i → j < i := by intro j h1 h2; omega
    -- it is no better one
    have stay : (l[i].f0 = 0 → (∀ y ∈ o, y < l[i].f1) → ∃ (b : Nat) (hb : b < l.length), best = (b : Int) ∧ l[b].f1 ≤ l[i].f1) → Best l o best (i + 1) := by
      intro hs
      rcases hb with ⟨rfl, hb⟩ | ⟨b, hbl, rfl, hb0, hb1, hb2⟩
      · refine .inl ⟨rfl, fun j hj hji h0 hc => ?_⟩
        by_cases e : j = i
        · subst e
          obtain ⟨b, _, hbe, _⟩ := hs h0 hc
          omega
        · exact hb j hj (up hji e) h0 hc
      · refine .inr ⟨b, hbl, rfl, hb0, hb1, fun j hj hji h0 hc => ?_⟩
        by_cases e : j = i
        · subst e
          obtain ⟨b', hb', hbe, hle⟩ := hs h0 hc
          have : b = b' := by omega
          subst this
          exact hle
        · exact hb2 j hj (up hji e) h0 hc
    -- it is the better one
    have take : l[i].f0 = 0 → (∀ y ∈ o, y < l[i].f1) → (∀ (b : Nat) (hb : b < l.length), best = (b : Int) → l[i].f1 ≤ l[b].f1) → Best l o (i : Int) (i + 1) := by
      intro h0 hc hs
      refine .inr ⟨i, hlt, rfl, h0, hc, fun j hj hji hj0 hjc => ?_⟩
      by_cases e : j = i
      · subst e; exact Int.le_refl _
      · rcases hb with ⟨rfl, hb⟩ | ⟨b, hbl, rfl, hb0, hb1, hb2⟩
        · exact absurd hjc (hb j hj (up hji e) hj0)
        · exact Int.le_trans (hs b hbl rfl) (hb2 j hj (up hji e) hj0 hjc)
    have go : ∀ best', Best l o best' (i + 1) → Ev (fun k => runnelref08_Cols.l1 k l o best' ((i + 1 : Nat) : Int)) r := fun best' hb' => ih best' (i + 1) (by omega) (by omega) hb'
    -- what the tests on the best one come to
    have tests : l[i].f0 = 0 → (∀ y ∈ o, y < l[i].f1) → Ev (fun k => if best < 0 then runnelref08_Cols.l1 k l o (i : Int) ((i + 1 : Nat) : Int) else if 0 ≤ best then (if best < (l.length : Int) then (if l[i].f1 < (rd_T41 l best).f1 then runnelref08_Cols.l1 k l o (i : Int) ((i + 1 : Nat) : Int) else runnelref08_Cols.l1 k l o best ((i + 1 : Nat) : Int)) else none) else none) r := by
      intro h0 hc
      have hb' := hb
      rcases hb' with ⟨rfl, _⟩ | ⟨b, hbl, rfl, _⟩
      · exact Ev.congr (fun k => if_pos (by omega)) (go _ (take h0 hc (fun b _ e => by omega)))
      · have hgb : rd_T41 l (b : Int) = l[b] := by rw [rdT_get (by omega) (by omega)]; simp
        by_cases h : l[i].f1 < l[b].f1
        · refine Ev.congr (fun k => by rw [if_neg (by omega), if_pos (by omega), if_pos (by omega), hgb, if_pos h]) (go _ (take h0 hc (fun b' hb' e => ?_)))
          have : b = b' := by omega
          subst this
          omega
        · exact Ev.congr (fun k => by rw [if_neg (by omega), if_pos (by omega), if_pos (by omega), hgb, if_neg h]) (go _ (stay (fun _ _ => ⟨b, hbl, rfl, by omega⟩)))
    by_cases h0 : l[i].f0 = 0
    · by_cases hn : o = []
      · subst hn
        exact Ev.step (fun k => by rw [runnelref08_Cols.l1, if_pos (by omega), if_pos (by omega), hg, if_pos h0, if_pos (by simp), e2]) (tests h0 (by simp))
      · have hpos : 0 < o.length := List.length_pos_iff.2 hn
        have e3 : wrap64 ((o.length : Int) - 1) = (o.length : Int) - 1 := w64 (by omega)
        have hlast := last_is ho.up hn l[i].f1
        by_cases hc : ∀ y ∈ o, y < l[i].f1
        · exact Ev.step (fun k => by rw [runnelref08_Cols.l1, if_pos (by omega), if_pos (by omega), hg, if_pos h0, if_neg (by omega), e3, if_pos (by omega), if_pos (by omega), if_pos (hlast.2 hc), e2]) (tests h0 hc)
        · exact Ev.step (fun k => by rw [runnelref08_Cols.l1, if_pos (by omega), if_pos (by omega), hg, if_pos h0, if_neg (by omega), e3, if_pos (by omega), if_pos (by omega), if_neg (fun h => hc (hlast.1 h)), e2]) (go _ (stay (fun _ h => absurd h hc)))
    · exact Ev.step (fun k => by rw [runnelref08_Cols.l1, if_pos (by omega), if_pos (by omega), hg, if_neg h0, e2]) (go _ (stay (fun h => absurd h h0)))
theorem least_of : ∀ {L : List Int}, L ≠ [] → ∃ x ∈ L, ∀ y ∈ L, x ≤ y
  | [], h => absurd rfl h
  | [a], _ => ⟨a, by simp, by simp⟩
  | a :: b :: L, _ => by
    obtain ⟨x, hx, h⟩ := least_of (L := b :: L) (by simp)
    by_cases e : a ≤ x
    · exact ⟨a, by simp, fun y hy => by
        rcases List.mem_cons.1 hy with rfl | hy
        · exact Int.le_refl _
        · exact Int.le_trans e (h y hy)⟩
    · exact ⟨x, List.mem_cons_of_mem _ hx, fun y hy => by
        rcases List.mem_cons.1 hy with rfl | hy
        · omega
        · exact h y hy⟩
theorem ref_cols (l : List S41) (hl : (l.length : Int) ≤ 1000) (n : Nat) : ∀ (o : List Int), Told l o → ((colsP l).filter fun x => decide (∀ y ∈ o, y < x)).length ≤ n → o.length + n ≤ 1000 → ∃ r, Ev (fun k => runnelref08_Cols.l0 k l o) r ∧ r.Pairwise (· < ·) ∧ ∀ x, x ∈ r ↔ x ∈ colsP l := by
  induction n with
  | zero =>
    intro o ho hn hlen
    have hnil : ((colsP l).filter fun x => decide (∀ y ∈ o, y < x)) = [] := List.length_eq_zero_iff.1 (by omega)
    have none_ : ∀ x ∈ colsP l, ¬ ∀ y ∈ o, y < x := fun x hx hc => by
      have : x ∈ (colsP l).filter fun x => decide (∀ y ∈ o, y < x) := List.mem_filter.2 ⟨hx, decide_eq_true hc⟩
      rw [hnil] at this
      exact absurd this (by simp)
    refine ⟨o, ?_, ho.up, fun x => ⟨ho.sub x, fun hx => (ho.all x hx).resolve_right (none_ x hx)⟩⟩
    refine Ev.step (fun k => by rw [runnelref08_Cols.l0]; rfl) (ref_inner l hl o ho (by omega) o (fun _ => rfl) (fun t ht h0 hc _ => absurd hc (none_ _ (mem_colsP.2 ⟨t, ht, h0, rfl⟩))) l.length (-1) 0 (by omega) (by omega) (.inl ⟨rfl, fun j _ h => by omega⟩))
  | succ n ih =>
    intro o ho hn hlen
    by_cases hnil : ((colsP l).filter fun x => decide (∀ y ∈ o, y < x)) = []
    · obtain ⟨r, h⟩ := ih o ho (by rw [hnil]; simp) (by omega)
      exact ⟨r, h⟩
    obtain ⟨x0, hx0, hmin⟩ := least_of hnil
    obtain ⟨hx0c, hx0e⟩ := List.mem_filter.1 hx0
    have hx0e := of_decide_eq_true hx0e
    have ho' : Told l (o ++ [x0]) := by
      refine ⟨List.pairwise_append.2 ⟨ho.up, by simp, fun a ha b hb => by simp at hb; subst hb; exact hx0e a ha⟩, fun x hx => ?_, fun x hx => ?_⟩
      · rcases List.mem_append.1 hx with h | h
        · exact ho.sub x h
        · simp at h; subst h; exact hx0c
      · rcases ho.all x hx with h | h
        · exact .inl (List.mem_append_left _ h)
        · have hle := hmin x (List.mem_filter.2 ⟨hx, decide_eq_true h⟩)
          by_cases e : x = x0
          · subst e; exact .inl (by simp)
          · refine .inr fun y hy => ?_
            rcases List.mem_append.1 hy with h2 | h2
            · exact h y h2
            · simp at h2; subst h2; omega
    have hless : ((colsP l).filter fun x => decide (∀ y ∈ o ++ [x0], y < x)).length < ((colsP l).filter fun x => decide (∀ y ∈ o, y < x)).length := by
      have e : ((colsP l).filter fun x => decide (∀ y ∈ o ++ [x0], y < x)) = ((colsP l).filter fun x => decide (∀ y ∈ o, y < x)).filter fun x => decide (x0 < x) := by
        rw [List.filter_filter]
        congr 1
        funext x
        rw [← Bool.decide_and]
        apply decide_eq_decide.2
        exact ⟨fun h => ⟨h x0 (List.mem_append_right _ (by simp)), fun y hy => h y (List.mem_append_left _ hy)⟩, fun h y hy => (List.mem_append.1 hy).elim (h.2 y) (fun e => by simp at e; subst e; exact h.1)⟩
      rw [e]
      have := List.length_filter_lt_length_iff_exists (p := fun x => decide (x0 < x)) (l := (colsP l).filter fun x => decide (∀ y ∈ o, y < x))
      exact this.2 ⟨x0, hx0, by simp⟩
    obtain ⟨r, h1, h2, h3⟩ := ih (o ++ [x0]) ho' (by omega) (by rw [List.length_append, List.length_singleton]; omega)
    refine ⟨r, ?_, h2, h3⟩
    refine Ev.step (fun k => by rw [runnelref08_Cols.l0]; rfl) (ref_inner l hl o ho (by omega) r (fun hno => absurd hx0e (hno x0 hx0c)) (fun t ht h0 hc hm => ?_) l.length (-1) 0 (by omega) (by omega) (.inl ⟨rfl, fun j _ h => by omega⟩))
    have e : t.f1 = x0 := by
      have a1 := hm x0 hx0c hx0e
      have a2 := hmin t.f1 (List.mem_filter.2 ⟨mem_colsP.2 ⟨t, ht, h0, rfl⟩, decide_eq_true hc⟩)
      omega
    rw [e]; exact h1
theorem colsP_short (l : List S41) : (colsP l).length ≤ l.length := by
  have h2 := List.length_filter_le (fun t : S41 => t.f0 == 0) l
  unfold colsP
  rw [List.length_map]
  exact h2
theorem cols_both (l : List S41) (hl : (l.length : Int) ≤ 1000) : ∃ r, Ev (fun k => expr_Cols.f k l) r ∧ Ev (fun k => runnelref08_Cols.f k l) r ∧ r.length ≤ l.length ∧ ∀ x, x ∈ r ↔ x ∈ colsP l := by
  have h1 := impl_cols l hl l.length [] 0 (by omega) (by omega) (by rw [List.take_zero]; rfl)
  have hs := colsP_short l
  obtain ⟨r, h2, h3, h4⟩ := ref_cols l hl l.length [] ⟨by simp, by simp, fun x _ => .inr (by simp)⟩ (Nat.le_trans (List.length_filter_le _ _) hs) (by simp; omega)
  have hp : ((colsP l).mergeSort fun x y => decide (x ≤ y)).Pairwise (· ≤ ·) := by
    have := List.pairwise_mergeSort (le := fun x y : Int => decide (x ≤ y)) (fun a b c h1 h2 => by simp at *; omega) (fun a b => by simp; omega) (colsP l)
    exact this.imp (fun h => by simpa using h)
  have e : Lib.compact ((colsP l).mergeSort fun x y => decide (x ≤ y)) = r := by
    refine sorted_same (compact_sorted hp) h3 fun x => ?_
    rw [compact_mem, List.mem_mergeSort, h4]
  have hlen := Lib.compact_length_le ((colsP l).mergeSort fun x y => decide (x ≤ y))
  rw [List.length_mergeSort, e] at hlen
  rw [e] at h1
  exact ⟨r, h1, h2, by omega, h4⟩
theorem long_loop (l : List S41) (hl : (l.length : Int) ≤ 1000) (d : Nat) : ∀ (i : Nat), i ≤ l.length → l.length - i = d → ∃ b, Ev (fun k => runnelref08_Long.l0 k l (i : Int)) b := by
  induction d with
  | zero =>
    intro i hi hd
    exact ⟨false, Ev.step (fun k => by rw [runnelref08_Long.l0, if_neg (by omega)]) (Ev.now _)⟩
  | succ d ih =>
    intro i hi hd
    have e2 : wrap64 ((i : Int) + 1) = ((i + 1 : Nat) : Int) := by rw [w64 (by omega)]; rfl
    by_cases h : ((rd_T41 l (i : Int)).f2.size : Int) > 5000
    · exact ⟨true, Ev.step (fun k => by rw [runnelref08_Long.l0, if_pos (by omega), if_pos (by omega), if_pos h]) (Ev.now _)⟩
    · obtain ⟨b, hb⟩ := ih (i + 1) (by omega) (by omega)
      exact ⟨b, Ev.step (fun k => by rw [runnelref08_Long.l0, if_pos (by omega), if_pos (by omega), if_neg h, e2]) hb⟩
theorem long_is (l : List S41) : (Ev (fun k => runnelref08_Long.f k l) true) ∨ ((l.length : Int) ≤ 80 ∧ Ev (fun k => runnelref08_Long.f k l) false) := by
  unfold runnelref08_Long.f
  by_cases h : (l.length : Int) > 80
  · exact .inl (Ev.congr (fun k => if_pos h) (Ev.now _))
  · obtain ⟨b, hb⟩ := long_loop l (by omega) l.length 0 (by omega) (by omega)
    cases b with
    | true => exact .inl (Ev.congr (fun k => if_neg h) hb)
    | false => exact .inr ⟨by omega, Ev.congr (fun k => if_neg h) hb⟩
theorem live_ev : Ev (fun k => runnellaw08_live.f k) true := Ev.of (fun k => runnellaw08_live.mono k) (k := 40) (by decide +kernel)
theorem same_loop (r : List Int) (hr : (r.length : Int) ≤ 1000) (d : Nat) : ∀ (i : Nat), i ≤ r.length → r.length - i = d → Ev (fun k => runnellaw08_ExprCols.l0 k r r (i : Int)) true := by
  induction d with
  | zero =>
    intro i hi hd
    exact Ev.step (fun k => by rw [runnellaw08_ExprCols.l0, if_neg (by omega)]) (Ev.bind live_ev (Ev.now _))
  | succ d ih =>
    intro i hi hd
    have e2 : wrap64 ((i : Int) + 1) = ((i + 1 : Nat) : Int) := by rw [w64 (by omega)]; rfl
    exact Ev.step (fun k => by rw [runnellaw08_ExprCols.l0, if_pos (by omega), if_pos (by omega), if_pos (by omega), if_pos rfl, e2]) (ih (i + 1) (by omega) (by omega))
theorem ExprCols : runnellaw08_ExprCols.Pure := by
  intro l _
  suffices h : Ev (fun k => runnellaw08_ExprCols.f k l) true from h.rounds
  unfold runnellaw08_ExprCols.f
  rcases long_is l with h | ⟨hl, h⟩
  · refine Ev.bind h ?_
    exact Ev.congr (fun k => if_pos rfl) (Ev.bind live_ev (Ev.now _))
  · refine Ev.bind h ?_
    refine Ev.congr (fun k => if_neg (by decide)) ?_
    obtain ⟨r, h1, h2, h3, _⟩ := cols_both l (by omega)
    refine Ev.bind h1 (Ev.bind h2 ?_)
    exact Ev.congr (fun k => if_pos rfl) (same_loop r (by omega) r.length 0 (by omega) (by omega))

end Go.Proofs.Ytmamkmolgbmmaaa.Pure
