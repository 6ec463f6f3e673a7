/- What is evaluated has the kind that is told, and columns that are not looked at play no part. No condition beyond the statement's own. -/
import Derived.Test.YtmamkmolgbmmaaaQExprKindsx9
namespace Go.Proofs.Ytmamkmolgbmmaaa.Pure
open Go.RowKit Go.Proofs.Ytmamkmolgbmmaaa.QExprKinds Go.Proofs.YtmamkmolgbmmaaaW.PrintWords Go.Proofs.YtmamkmolgbmmaaaW.PrintLast

theorem w64 {x : Int} (h : -9223372036854775808 ≤ x ∧ x ≤ 9223372036854775807) : wrap64 x = x := by unfold wrap64; omega
/-- Never as a hypothesis: omega runs away over two of them. -/
theorem wnext (i : Nat) (h : i ≤ 1000000) : wrap64 ((i : Int) + 1) = ((i + 1 : Nat) : Int) := by rw [w64 (by omega)]; rfl
theorem ev_step (k : Nat) (row st : List S35) (ts : List S41) (i m : Int) (h0 : 0 ≤ i) (h1 : i < (ts.length : Int)) (hts : (ts.length : Int) ≤ 1000) (ha : expr_arity.f k (rd_T41 ts i).f0 = some m) (hm : 0 ≤ m) (h2 : m ≤ (st.length : Int)) (hst : (st.length : Int) ≤ 1000) :
    expr_Eval.l1 (k + 1) row st ts (ts.length : Int) i = (expr_do.f k (rd_T41 ts i).f0 (rd_T41 ts i).f1 (rd_T41 ts i).f2 (st.drop ((st.length : Int) - m).toNat) row).bind fun b => if b.2.2.2 = 0 then expr_Eval.l1 k row (st.take ((st.length : Int) - m).toNat ++ [(⟨b.1, b.2.1, b.2.2.1⟩ : S35)]) ts (ts.length : Int) (i + 1) else some (0, 0, (⟨#[]⟩ : ByteArray), b.2.2.2) := by
  have e1 : wrap64 ((st.length : Int) - m) = (st.length : Int) - m := w64 (by omega)
  have e2 : wrap64 (i + 1) = i + 1 := w64 (by omega)
  have g1 : 0 ≤ (st.length : Int) - m := by omega
  have g2 : (st.length : Int) - m ≤ (st.length : Int) := by omega
  have g3 : (st.take ((st.length : Int) - m).toNat).length < 4398046511104 := by rw [List.length_take]; omega
  rw [expr_Eval.l1, if_pos h1, if_pos h0, if_pos h1, ha, Option.bind_some, e1, if_pos g1, if_pos g2, e2]
  generalize List.take ((st.length : Int) - m).toNat st = tk at g3 ⊢
  congr 1
  funext b
  rw [Option.bind_some, if_pos g3]
theorem ev_end (k : Nat) (row st : List S35) (ts : List S41) (hs : 0 < (st.length : Int)) :
    expr_Eval.l1 (k + 1) row st ts (ts.length : Int) (ts.length : Int) = some ((rd_T35 st 0).f0, (rd_T35 st 0).f1, (rd_T35 st 0).f2, 0) := by
  rw [expr_Eval.l1, if_neg (by omega), if_pos hs]
/-- The kinds of a row's values. -/
def kindsP (row : List S35) : List Int := row.map (·.f0)
theorem ev_kinds (ts : List S41) (row : List S35) (hr : (row.length : Int) ≤ 1000) (d : Nat) : ∀ (k : Nat) (cs : List Int) (i : Nat), i ≤ row.length → row.length - i = d → cs = kindsP (row.take i) →
    expr_Eval.l0 (k + d + 1) ts row cs row (row.length : Int) (i : Int) = (expr_Type.f k ts (kindsP row)).bind fun b => if b.2.1 = 0 then expr_Eval.l1 k row ([] : List S35) ts (ts.length : Int) 0 else some (0, 0, (⟨#[]⟩ : ByteArray), b.2.1) := by
  induction d with
  | zero =>
    intro k cs i hi hd hc
    have hir : i = row.length := by omega
    subst hir
    rw [List.take_length] at hc
    subst hc
    rw [expr_Eval.l0, if_neg (by omega)]
  | succ d ih =>
    intro k cs i hi hd hc
    have hlt : i < row.length := by omega
    have hl : cs.length < 17592186044416 := by rw [hc]; unfold kindsP; rw [List.length_map, List.length_take]; omega
    rw [show k + (d + 1) + 1 = k + d + 1 + 1 from rfl, expr_Eval.l0, if_pos (by omega), if_pos (by omega), if_pos (by omega), if_pos hl, wnext i (by omega)]
    refine ih k _ (i + 1) (by omega) (by omega) ?_
    rw [hc, List.take_add_one, List.getElem?_eq_getElem hlt]
    unfold kindsP
    rw [List.map_append]
    congr 1
    have : rd_T35 row (i : Int) = row[i] := by unfold rd_T35; rw [Int.toNat_natCast, List.getD_eq_getElem?_getD, List.getElem?_eq_getElem hlt]; rfl
    rw [this]; rfl
theorem eval_is (k : Nat) (ts : List S41) (row : List S35) (hr : (row.length : Int) ≤ 1000) :
    expr_Eval.f (k + row.length + 1) ts row = (expr_Type.f k ts (kindsP row)).bind fun b => if b.2.1 = 0 then expr_Eval.l1 k row ([] : List S35) ts (ts.length : Int) 0 else some (0, 0, (⟨#[]⟩ : ByteArray), b.2.1) := by
  unfold expr_Eval.f
  exact ev_kinds ts row hr row.length k [] 0 (by omega) (by omega) (by rw [List.take_zero]; rfl)
/-- How many values a step takes. -/
def arP (o : Int) : Int := if o = 0 ∨ o = 1 ∨ o = 2 then 0 else if o = 8 ∨ o = 11 ∨ o = 15 then 1 else if o = 14 then 3 else 2
/-- The kind of what a step makes of others, and whether it takes such. -/
def madeP (o : Int) (l : List Int) : Int × Bool :=
  if o = 9 ∨ o = 10 then (0, rd l 0 == rd l 1) else if o = 17 ∨ o = 18 then (rd l 0, rd l 0 == rd l 1)
  else if o = 14 then (if rd l 0 = 0 then (rd l 1, rd l 1 == rd l 2) else (rd l 1, false))
  else if o = 15 then (0, l.all (fun k => k == 1)) else if o = 16 then (1, l.all (fun k => k == 1)) else (0, l.all (fun k => k == 0))
theorem arity_is (k : Nat) (o : Int) : expr_arity.f (k + 2) o = some (arP o) := by
  unfold expr_arity.f arP
  by_cases h0 : o = 0
  · subst h0; simp [expr_arity.j0]
  by_cases h1 : o = 1
  · subst h1; simp [expr_arity.j0]
  by_cases h2 : o = 2
  · subst h2; simp [expr_arity.j0]
  by_cases h8 : o = 8
  · subst h8; simp [expr_arity.j0, expr_arity.j1]
  by_cases h11 : o = 11
  · subst h11; simp [expr_arity.j0, expr_arity.j1]
  by_cases h15 : o = 15
  · subst h15; simp [expr_arity.j0, expr_arity.j1]
  by_cases h14 : o = 14
  · subst h14; simp [expr_arity.j0, expr_arity.j1]
  simp [expr_arity.j0, expr_arity.j1, h0, h1, h2, h8, h11, h14, h15]
theorem made_is (k : Nat) (o : Int) (l : List Int) (h : (l.length : Int) = arP o) : expr_made.f (k + 2) o l = some (madeP o l) := by
  unfold expr_made.f madeP
  by_cases h9 : o = 9
  · subst h9
    have hl : (l.length : Int) = 2 := h
    simp [expr_made.j0, hl]
  by_cases h10 : o = 10
  · subst h10
    have hl : (l.length : Int) = 2 := h
    simp [expr_made.j0, hl]
  by_cases h17 : o = 17
  · subst h17
    have hl : (l.length : Int) = 2 := h
    simp [expr_made.j0, expr_made.j1, hl]
  by_cases h18 : o = 18
  · subst h18
    have hl : (l.length : Int) = 2 := h
    simp [expr_made.j0, expr_made.j1, hl]
  by_cases h14 : o = 14
  · subst h14
    have hl : (l.length : Int) = 3 := h
    simp [expr_made.j0, expr_made.j1, hl]
    split <;> rfl
  by_cases h15 : o = 15
  · subst h15; simp [expr_made.j0, expr_made.j1, expr_all.f]
  by_cases h16 : o = 16
  · subst h16; simp [expr_made.j0, expr_made.j1, expr_all.f]
  simp [expr_made.j0, expr_made.j1, expr_all.f, h9, h10, h17, h18, h14, h15, h16]
/-- A step of the kinds: its error, and the stack. -/
def stepP (cols : List Int) (o n : Int) (s : ByteArray) (st : List Int) : Int × List Int :=
  if o = 0 then (if n < 0 then (9, st) else if n ≥ (cols.length : Int) then (9, st) else pushS (rd cols n) st)
  else if o = 2 then (if (s.size : Int) > 4096 then (2, st) else pushS 1 st)
  else if o = 1 then pushS 0 st
  else if o < 0 then (8, st) else if o ≥ 19 then (8, st)
  else if (st.length : Int) < arP o then (6, st) else if (madeP o (st.drop ((st.length : Int) - arP o).toNat)).2 = true then pushS (madeP o (st.drop ((st.length : Int) - arP o).toNat)).1 (st.take ((st.length : Int) - arP o).toNat) else (80, st)
theorem arP_nonneg (o : Int) : 0 ≤ arP o ∧ arP o ≤ 3 := by
  unfold arP
  repeat' split
  all_goals omega
theorem step_is' (k : Nat) (cols : List Int) (o n : Int) (s : ByteArray) (st : List Int) : stepS (k + 2) cols o n s st = some (stepP cols o n s st) := by
  unfold stepS stepP
  have ha := arP_nonneg o
  by_cases o0 : o = 0
  · rw [if_pos o0, if_pos o0]; repeat' split
    all_goals rfl
  rw [if_neg o0, if_neg o0]
  by_cases o2 : o = 2
  · rw [if_pos o2, if_pos o2]; repeat' split
    all_goals rfl
  rw [if_neg o2, if_neg o2]
  by_cases o1 : o = 1
  · rw [if_pos o1, if_pos o1]
  rw [if_neg o1, if_neg o1]
  by_cases ol : o < 0
  · rw [if_pos ol, if_pos ol]
  rw [if_neg ol, if_neg ol]
  by_cases oh : o ≥ 19
  · rw [if_pos oh, if_pos oh]
  rw [if_neg oh, if_neg oh, arity_is]
  simp only [Option.bind_some]
  rw [if_neg (by omega)]
  by_cases hl : (st.length : Int) < arP o
  · rw [if_pos hl, if_pos hl]
  rw [if_neg hl, if_neg hl, made_is k o _ (by rw [List.length_drop]; omega)]
  simp only [Option.bind_some]
  split <;> rfl
theorem step_is {k : Nat} (hk : 2 ≤ k) (cols : List Int) (o n : Int) (s : ByteArray) (st : List Int) : stepS k cols o n s st = some (stepP cols o n s st) := by
  obtain ⟨k, rfl⟩ : ∃ m, k = m + 2 := ⟨k - 2, by omega⟩
  exact step_is' k cols o n s st
/-- The columns that steps look at, as they come. -/
def colsP (l : List S41) : List Int := (l.filter fun t => t.f0 == 0).map (·.f1)
theorem mem_colsP {l : List S41} {x : Int} : x ∈ colsP l ↔ ∃ t ∈ l, t.f0 = 0 ∧ t.f1 = x := by
  simp only [colsP, List.mem_map, List.mem_filter, beq_iff_eq]
  exact ⟨fun ⟨t, ⟨h1, h2⟩, h3⟩ => ⟨t, h1, h2, h3⟩, fun ⟨t, h1, h2, h3⟩ => ⟨t, ⟨h1, h2⟩, h3⟩⟩
theorem rdT_get {l : List S41} {i : Int} (h0 : 0 ≤ i) (h1 : i < (l.length : Int)) : rd_T41 l i = l[i.toNat]'(by omega) := by
  unfold rd_T41
  rw [List.getD_eq_getElem?_getD, List.getElem?_eq_getElem (by omega)]; rfl
theorem rdT_mem {l : List S41} {i : Int} (h0 : 0 ≤ i) (h1 : i < (l.length : Int)) : rd_T41 l i ∈ l := by
  rw [rdT_get h0 h1]; exact List.getElem_mem _
theorem sorted_same : ∀ {a b : List Int}, a.Pairwise (· < ·) → b.Pairwise (· < ·) → (∀ x, x ∈ a ↔ x ∈ b) → a = b
  | [], [], _, _, _ => rfl
  | [], y :: b, _, _, h => absurd ((h y).2 (List.mem_cons_self)) (by simp)
  | x :: a, [], _, _, h => absurd ((h x).1 (List.mem_cons_self)) (by simp)
  | x :: a, y :: b, ha, hb, h => by
    have ha' := List.pairwise_cons.1 ha
    have hb' := List.pairwise_cons.1 hb
    have e : x = y := by
      rcases List.mem_cons.1 ((h x).1 List.mem_cons_self) with e | e
      · exact e
      · have h1 := hb'.1 x e
        rcases List.mem_cons.1 ((h y).2 List.mem_cons_self) with e2 | e2
        · exact e2.symm
        · have := ha'.1 y e2; omega
    subst e
    congr 1
    refine sorted_same ha'.2 hb'.2 fun z => ⟨fun hz => ?_, fun hz => ?_⟩
    · rcases List.mem_cons.1 ((h z).1 (List.mem_cons_of_mem _ hz)) with e | e
      · subst e; exact absurd (ha'.1 _ hz) (by omega)
      · exact e
    · rcases List.mem_cons.1 ((h z).2 (List.mem_cons_of_mem _ hz)) with e | e
      · subst e; exact absurd (hb'.1 _ hz) (by omega)
      · exact e
theorem compact_mem {zs : List Int} (x : Int) : x ∈ Lib.compact zs ↔ x ∈ zs := by
  unfold Lib.compact Lib.compactUpTo
  simp only [List.mem_map, List.mem_filter, List.mem_range]
  constructor
  · rintro ⟨j, ⟨hj, _⟩, rfl⟩
    simp [hj]
  · intro hx
    obtain ⟨i, hi, rfl⟩ := List.mem_iff_getElem.1 hx
    -- the first place at which it stands
    have key : ∀ n i (hi : i < zs.length), i ≤ n → ∃ j, (j < zs.length ∧ Lib.keeps zs.toArray j = true) ∧ zs.toArray[j]! = zs[i] := by
      intro n
      induction n with
      | zero =>
        intro i hi hn
        have : i = 0 := by omega
        subst this
        exact ⟨0, ⟨hi, by simp [Lib.keeps]⟩, by simp [hi]⟩
      | succ n ih =>
        intro i hi hn
        by_cases hk : Lib.keeps zs.toArray i = true
        · exact ⟨i, ⟨hi, hk⟩, by simp [hi]⟩
        · have h0 : i ≠ 0 := fun e => hk (by subst e; simp [Lib.keeps])
          have e : zs[i] = zs[i - 1]'(by omega) := by
            have h2 : zs.toArray[i]! = zs.toArray[i - 1]! := Classical.byContradiction fun c => hk (Lib.keeps_pos c)
            simpa [hi, show i - 1 < zs.length by omega] using h2
          obtain ⟨j, h1, h2⟩ := ih (i - 1) (by omega) (by omega)
          exact ⟨j, h1, h2.trans e.symm⟩
    exact key i i hi (Nat.le_refl _)
theorem compact_sorted {zs : List Int} (h : zs.Pairwise (· ≤ ·)) : (Lib.compact zs).Pairwise (· < ·) := by
  unfold Lib.compact Lib.compactUpTo
  rw [List.pairwise_map]
  have hp : (List.range zs.length).Pairwise (fun i j => i < j) := List.pairwise_lt_range
  have hp2 : (List.range zs.length).Pairwise (fun i j => i < j ∧ j < zs.length) := by
    refine List.Pairwise.imp_of_mem ?_ hp
    intro a b _ hb hab
    exact ⟨hab, List.mem_range.1 hb⟩
  refine List.Pairwise.imp_of_mem ?_ (hp2.filter _)
  intro i j _ hj ⟨hij, hjl⟩
  have hk := (List.mem_filter.1 hj).2
  have hj0 : j ≠ 0 := by omega
  have h1 : zs[j - 1]'(by omega) ≠ zs[j] := by
    simp only [Lib.keeps, decide_eq_true_eq] at hk
    rcases hk with hk | hk
    · exact absurd hk hj0
    · intro e
      apply hk
      simp [hjl, show j - 1 < zs.length by omega, e]
  have h2 : zs[j - 1]'(by omega) ≤ zs[j] := List.pairwise_iff_getElem.1 h (j - 1) j (by omega) hjl (by omega)
  have h3 : zs[i]'(by omega) ≤ zs[j - 1]'(by omega) := by
    by_cases e : i = j - 1
    · subst e; exact Int.le_refl _
    · exact List.pairwise_iff_getElem.1 h i (j - 1) (by omega) (by omega) (by omega)
  simp only [List.getElem!_toArray, hjl, show i < zs.length by omega, getElem!_pos]
  omega
theorem colsP_next (l : List S41) (i : Nat) (h : i < l.length) : colsP (l.take (i + 1)) = if l[i].f0 = 0 then colsP (l.take i) ++ [l[i].f1] else colsP (l.take i) := by
  unfold colsP
  rw [List.take_add_one, List.getElem?_eq_getElem h, List.filter_append, List.map_append]
  by_cases e : l[i].f0 = 0
  · rw [if_pos e]; simp [e]
  · rw [if_neg e]; simp [e]
theorem impl_cols (l : List S41) (hl : (l.length : Int) ≤ 1000) (d : Nat) : ∀ (o : List Int) (i : Nat), i ≤ l.length → l.length - i = d → o = colsP (l.take i) → Ev (fun k => expr_Cols.l0 k o l (l.length : Int) (i : Int)) (Lib.compact ((colsP l).mergeSort fun x y => decide (x ≤ y))) := by
  have hlen : ∀ n, (colsP (l.take n)).length ≤ 1000 := by
    intro n
    unfold colsP
    rw [List.length_map]
    have := List.length_filter_le (fun t : S41 => t.f0 == 0) (l.take n)
    rw [List.length_take] at this
    omega
  induction d with
  | zero =>
    intro o i hi hd ho
    have e : i = l.length := by omega
    subst e
    have hb := hlen l.length
    rw [List.take_length] at ho hb
    subst ho
    refine Ev.step (fun k => by rw [expr_Cols.l0, if_neg (by omega)]) ?_
    refine Ev.congr (f := fun _ => some (Lib.compact ((colsP l).mergeSort fun x y => decide (x ≤ y)))) (fun k => ?_) (Ev.now _)
    unfold slices_Sort_int_int.f slices_Compact_int_int.f
    rw [if_pos (by omega), Option.bind_some, if_pos (by rw [List.length_mergeSort]; omega), Option.bind_some]
  | succ d ih =>
    intro o i hi hd ho
    have hlt : i < l.length := by omega
    have hg : rd_T41 l (i : Int) = l[i] := by rw [rdT_get (by omega) (by omega)]; simp
    have hb := hlen i
    by_cases h : (rd_T41 l (i : Int)).f0 = 0
    · refine Ev.step (fun k => by rw [expr_Cols.l0, if_pos (by omega), if_pos (by omega), if_pos (by omega), if_pos h, if_pos (by rw [ho]; omega), wnext i (by omega)]) (ih _ (i + 1) (by omega) (by omega) ?_)
      rw [hg] at h
      rw [ho, colsP_next l i hlt, if_pos h, hg]
    · refine Ev.step (fun k => by rw [expr_Cols.l0, if_pos (by omega), if_pos (by omega), if_pos (by omega), if_neg h, wnext i (by omega)]) (ih _ (i + 1) (by omega) (by omega) ?_)
      rw [hg] at h
      rw [ho, colsP_next l i hlt, if_neg h]
theorem colsP_short (l : List S41) : (colsP l).length ≤ l.length := by
  have h2 := List.length_filter_le (fun t : S41 => t.f0 == 0) l
  unfold colsP
  rw [List.length_map]
  exact h2
/-- Back from a round to what follows. -/
theorem Ev_back {α : Type} {g f : Nat → Option α} {r : α} (h : ∀ k, g (k + 1) = f k) (k : Ev g r) : Ev f r := by
  obtain ⟨K, hK⟩ := k
  exact ⟨K, fun k hk => by rw [← h k]; exact hK (k + 1) (by omega)⟩
theorem Ev_unique {α : Type} {g : Nat → Option α} {r q : α} (h : Ev g r) (k : Ev g q) : r = q := by
  obtain ⟨K, hK⟩ := h
  obtain ⟨L, hL⟩ := k
  have h1 := hK (K + L) (by omega)
  have h2 := hL (K + L) (by omega)
  rw [h1] at h2
  exact Option.some.inj h2
theorem Ev_shift {α : Type} {g f : Nat → Option α} {r : α} (c : Nat) (h : ∀ k, g (k + c) = f (k + c)) (k : Ev g r) : Ev f r := by
  obtain ⟨K, hK⟩ := k
  refine ⟨K + c, fun k hk => ?_⟩
  obtain ⟨m, rfl⟩ : ∃ m, k = m + c := ⟨k - c, by omega⟩
  rw [← h m]; exact hK _ (by omega)
theorem Ev_up {α : Type} {g : Nat → Option α} {r : α} (c : Nat) (h : Ev (fun k => g (k + c)) r) : Ev g r := by
  obtain ⟨K, hK⟩ := h
  refine ⟨K + c, fun k hk => ?_⟩
  obtain ⟨m, rfl⟩ : ∃ m, k = m + c := ⟨k - c, by omega⟩
  exact hK m (by omega)
theorem Ev_from {α : Type} {g : Nat → Option α} {r : α} (c : Nat) (h : ∀ k, g (k + c) = some r) : Ev g r := ⟨c, fun k hk => by
  obtain ⟨m, rfl⟩ : ∃ m, k = m + c := ⟨k - c, by omega⟩
  exact h m⟩
/-! ### the kinds -/
theorem type_step (ts : List S41) (cols ks : List Int) (i : Nat) (hi : i < ts.length) (k : Nat) : expr_Type.l0 (k + 3) ts cols ks (i : Int) = if (stepP cols (rd_T41 ts (i : Int)).f0 (rd_T41 ts (i : Int)).f1 (rd_T41 ts (i : Int)).f2 ks).1 = 0 then expr_Type.l0 (k + 2) ts cols (stepP cols (rd_T41 ts (i : Int)).f0 (rd_T41 ts (i : Int)).f1 (rd_T41 ts (i : Int)).f2 ks).2 ((i + 1 : Nat) : Int) else some (0, (stepP cols (rd_T41 ts (i : Int)).f0 (rd_T41 ts (i : Int)).f1 (rd_T41 ts (i : Int)).f2 ks).1, (i : Int)) := by
  rw [expr_Type.l0, if_pos (by omega), step_is (by omega), Option.bind_some]
  rfl
theorem type_end (ts : List S41) (cols ks : List Int) (k : Nat) : expr_Type.l0 (k + 1) ts cols ks (ts.length : Int) = if ks.length = 1 then some (rd ks 0, 0, (ts.length : Int)) else some (0, 6, (ts.length : Int)) := by
  rw [expr_Type.l0, if_neg (by omega)]
theorem type_loop (ts : List S41) (cols : List Int) (d : Nat) : ∀ (ks : List Int) (i : Nat), i ≤ ts.length → ts.length - i = d → ∃ r, Ev (fun k => expr_Type.l0 k ts cols ks (i : Int)) r := by
  induction d with
  | zero =>
    intro ks i hi hd
    have e : i = ts.length := by omega
    subst e
    by_cases h : ks.length = 1
    · exact ⟨_, Ev.step (fun k => by rw [type_end, if_pos h]) (Ev.now _)⟩
    · exact ⟨_, Ev.step (fun k => by rw [type_end, if_neg h]) (Ev.now _)⟩
  | succ d ih =>
    intro ks i hi hd
    have hi2 : i < ts.length := by omega
    by_cases h : (stepP cols (rd_T41 ts (i : Int)).f0 (rd_T41 ts (i : Int)).f1 (rd_T41 ts (i : Int)).f2 ks).1 = 0
    · obtain ⟨r, hr⟩ := ih (stepP cols (rd_T41 ts (i : Int)).f0 (rd_T41 ts (i : Int)).f1 (rd_T41 ts (i : Int)).f2 ks).2 (i + 1) (by omega) (by omega)
      obtain ⟨K, hK⟩ := hr
      exact ⟨r, K + 3, fun k hk => by
        obtain ⟨m, rfl⟩ : ∃ m, k = m + 3 := ⟨k - 3, by omega⟩
        show expr_Type.l0 (m + 3) ts cols ks (i : Int) = some r
        rw [type_step ts cols ks i hi2 m, if_pos h]
        exact hK (m + 2) (by omega)⟩
    · exact ⟨_, Ev_from 3 (fun k => by rw [type_step ts cols ks i hi2 k, if_neg h])⟩
theorem type_some (ts : List S41) (cols : List Int) : ∃ r, Ev (fun k => expr_Type.f k ts cols) r := by
  unfold expr_Type.f
  by_cases h : (ts.length : Int) = 0
  · exact ⟨_, Ev.congr (fun k => if_pos h) (Ev.now _)⟩
  by_cases h2 : (ts.length : Int) > 64
  · exact ⟨_, Ev.congr (fun k => (if_neg h).trans (if_pos h2)) (Ev.now _)⟩
  obtain ⟨r, hr⟩ := type_loop ts cols ts.length [] 0 (by omega) (by omega)
  exact ⟨r, Ev.congr (fun k => (if_neg h).trans (if_neg h2)) hr⟩
theorem type_ok {ts : List S41} {cols : List Int} {kd at_ : Int} (h : Ev (fun k => expr_Type.f k ts cols) (kd, 0, at_)) : ts.length ≤ 64 ∧ Ev (fun k => expr_Type.l0 k ts cols [] 0) (kd, 0, at_) := by
  unfold expr_Type.f at h
  by_cases h1 : (ts.length : Int) = 0
  · have := Ev_unique h (Ev.congr (fun k => if_pos h1) (Ev.now _))
    simp at this
  by_cases h2 : (ts.length : Int) > 64
  · have := Ev_unique h (Ev.congr (fun k => (if_neg h1).trans (if_pos h2)) (Ev.now _))
    simp at this
  exact ⟨by omega, Ev.congr (fun k => ((if_neg h1).trans (if_neg h2)).symm) h⟩
/-! ### the values -/
theorem Add_some (a b : Int) : ∃ p, weigh_Add.f a b = some p := by
  unfold weigh_Add.f
  repeat' split
  all_goals exact ⟨_, rfl⟩
theorem Sub_some (a b : Int) : ∃ p, weigh_Sub.f a b = some p := by
  unfold weigh_Sub.f
  repeat' split
  all_goals exact ⟨_, rfl⟩
theorem size_some (a : Int) : ∃ p, weigh_size.f a = some p := by
  unfold weigh_size.f
  split
  all_goals exact ⟨_, rfl⟩
theorem Mul_some (a b : Int) : ∃ p, weigh_Mul.f a b = some p := by
  unfold weigh_Mul.f
  obtain ⟨p, hp⟩ := size_some a
  obtain ⟨q, hq⟩ := size_some b
  obtain ⟨m, hm⟩ : ∃ m, bits_Mul64.f p q = some m := ⟨_, rfl⟩
  rw [hp, Option.bind_some, hq, Option.bind_some, hm, Option.bind_some]
  repeat' split
  all_goals exact ⟨_, rfl⟩
theorem Neg_some (a : Int) : ∃ p, weigh_Neg.f a = some p := by
  unfold weigh_Neg.f
  obtain ⟨p, hp⟩ := Sub_some 0 a
  exact ⟨_, by rw [hp, Option.bind_some]⟩
theorem div_some (a b : Int) : ∃ p, expr_div.f a b = some p := by
  unfold expr_div.f
  obtain ⟨p, hp⟩ := Neg_some a
  rw [hp, Option.bind_some]
  repeat' split
  all_goals exact ⟨_, rfl⟩
theorem mod_some (a b : Int) : ∃ p, expr_mod.f a b = some p := by
  unfold expr_mod.f
  obtain ⟨p, hp⟩ := div_some a b
  rw [hp, Option.bind_some]
  repeat' split
  all_goals exact ⟨_, rfl⟩
theorem flag_is (c : Bool) : expr_flag.f c = some (0, if c = true then 1 else 0, (⟨#[]⟩ : ByteArray), 0) := by
  unfold expr_flag.f; cases c <;> rfl
theorem reckon_some (op a b : Int) : ∃ v, expr_reckon.f op a b = some v ∧ v.1 = 0 ∧ v.2.2.1.size = 0 := by
  unfold expr_reckon.f expr_number.f
  obtain ⟨p1, h1⟩ := Add_some a b
  obtain ⟨p2, h2⟩ := Sub_some a b
  obtain ⟨p3, h3⟩ := Mul_some a b
  obtain ⟨p4, h4⟩ := div_some a b
  obtain ⟨p5, h5⟩ := mod_some a b
  simp only [h1, h2, h3, h4, h5, flag_is, Option.bind_some]
  repeat' split
  all_goals exact ⟨_, rfl, rfl, rfl⟩
theorem cmpi_some (a b : Int) : ∃ c, cmp_Compare_int.f a b = some c := by
  unfold cmp_Compare_int.f cmp_isNaN_int.f
  simp only [Option.bind_some]
  repeat' split
  all_goals exact ⟨_, rfl⟩
theorem cmps_some (a b : ByteArray) : ∃ c, cmp_Compare_string.f a b = some c := by
  unfold cmp_Compare_string.f cmp_isNaN_string.f
  simp only [Option.bind_some]
  repeat' split
  all_goals exact ⟨_, rfl⟩
theorem rowCmp_some (a : Int) (b : Int) (s : ByteArray) (c d : Int) (t : ByteArray) : ∃ o, row_Cmp.f a b s c d t = some o := by
  unfold row_Cmp.f
  obtain ⟨x, hx⟩ := cmpi_some b d
  obtain ⟨y, hy⟩ := cmps_some s t
  obtain ⟨z, hz⟩ := cmpi_some a c
  simp only [hx, hy, hz, Option.bind_some]
  repeat' split
  all_goals exact ⟨_, rfl⟩
theorem append_size (a b : ByteArray) : (a ++ b).size = a.size + b.size := by
  rw [ByteArray.size_append]
/-- What a step of two values makes: of the kind that is told. -/
theorem pair_some (op : Int) (a b : S35) (ha : a.f2.size ≤ 5000) (hb : b.f2.size ≤ 5000) (he : op = 17 ∨ op = 18 → a.f0 = b.f0) :
    ∃ v, (∀ m, expr_pair.f (m + 1) op a.f0 a.f1 a.f2 b.f0 b.f1 b.f2 = some v) ∧ (v.2.2.2 = 0 → v.1 = (if op = 17 ∨ op = 18 then a.f0 else if op = 16 then 1 else 0) ∧ v.2.2.1.size ≤ 5000) := by
  obtain ⟨o, ho⟩ := rowCmp_some a.f0 a.f1 a.f2 b.f0 b.f1 b.f2
  by_cases h9 : op = 9
  · subst h9
    exact ⟨(0, (if (o == 0) = true then 1 else 0), (⟨#[]⟩ : ByteArray), 0), fun m => by unfold expr_pair.f; rw [ho, Option.bind_some, if_pos rfl, flag_is, Option.bind_some], fun _ => ⟨rfl, Nat.zero_le _⟩⟩
  by_cases h10 : op = 10
  · subst h10
    exact ⟨(0, (if (decide (o < 0)) = true then 1 else 0), (⟨#[]⟩ : ByteArray), 0), fun m => by unfold expr_pair.f; rw [ho, Option.bind_some, if_neg h9, if_pos rfl, flag_is, Option.bind_some], fun _ => ⟨rfl, Nat.zero_le _⟩⟩
  have js : ∀ x : Int, ∃ v, (∀ m, expr_pair.j0 (m + 1) x a.f0 a.f1 a.f2 b.f0 b.f1 b.f2 = some v) ∧ (v = (b.f0, b.f1, b.f2, 0) ∨ v = (a.f0, a.f1, a.f2, 0)) := by
    intro x
    by_cases h : x < 0
    · exact ⟨_, fun m => by rw [expr_pair.j0, if_pos h], .inl rfl⟩
    · exact ⟨_, fun m => by rw [expr_pair.j0, if_neg h], .inr rfl⟩
  by_cases h17 : op = 17
  · obtain ⟨v, hv, h⟩ := js (wrap64 (-o))
    refine ⟨v, fun m => by unfold expr_pair.f; rw [ho, Option.bind_some, if_neg h9, if_neg h10, if_pos h17]; exact hv m, fun _ => ?_⟩
    rw [if_pos (.inl h17)]
    rcases h with rfl | rfl
    · exact ⟨(he (.inl h17)).symm, hb⟩
    · exact ⟨rfl, ha⟩
  by_cases h18 : op = 18
  · obtain ⟨v, hv, h⟩ := js o
    refine ⟨v, fun m => by unfold expr_pair.f; rw [ho, Option.bind_some, if_neg h9, if_neg h10, if_neg h17, if_pos h18]; exact hv m, fun _ => ?_⟩
    rw [if_pos (.inr h18)]
    rcases h with rfl | rfl
    · exact ⟨(he (.inr h18)).symm, hb⟩
    · exact ⟨rfl, ha⟩
  by_cases h16 : op = 16
  · subst h16
    by_cases hs : ((a.f2.size : Int) + (b.f2.size : Int)) > 4096
    · exact ⟨(0, 0, (⟨#[]⟩ : ByteArray), 2), fun m => by unfold expr_pair.f; rw [ho, Option.bind_some, if_neg h9, if_neg h10, if_neg h17, if_neg h18, if_pos rfl, w64 (by omega), if_pos hs], fun h => absurd h (by decide)⟩
    · refine ⟨(1, 0, a.f2 ++ b.f2, 0), fun m => by unfold expr_pair.f; rw [ho, Option.bind_some, if_neg h9, if_neg h10, if_neg h17, if_neg h18, if_pos rfl, w64 (by omega), if_neg hs, if_pos (by omega)], fun _ => ⟨rfl, ?_⟩⟩
      show (a.f2 ++ b.f2).size ≤ 5000
      rw [append_size]; omega
  · obtain ⟨v, hv, h1, h2⟩ := reckon_some op a.f1 b.f1
    refine ⟨v, fun m => by unfold expr_pair.f; rw [ho, Option.bind_some, if_neg h9, if_neg h10, if_neg h17, if_neg h18, if_neg h16, hv, Option.bind_some], fun _ => ?_⟩
    rw [if_neg (by omega), if_neg h16]
    exact ⟨h1, by omega⟩
/-- The kind of what a step makes. -/
def kdP (cols : List Int) (op n : Int) (ks : List Int) : Int := if op = 0 then rd cols n else if op = 2 then 1 else if op = 1 then 0 else (madeP op ks).1
theorem rdV_get {l : List S35} {i : Nat} (h : i < l.length) : rd_T35 l (i : Int) = l[i] := by
  unfold rd_T35
  rw [List.getD_eq_getElem?_getD, Int.toNat_natCast, List.getElem?_eq_getElem h]; rfl
theorem plain_kind (a b : Int) (s : ByteArray) : ∃ v, expr_plain.f a b s = some v ∧ v.1 = a ∧ v.2.2.size ≤ s.size := by
  unfold expr_plain.f
  by_cases h : a = 0
  · exact ⟨_, if_pos h, h.symm, Nat.zero_le _⟩
  by_cases h1 : a = 1
  · exact ⟨_, (if_neg h).trans (if_pos h1), rfl, Nat.le_refl _⟩
  · exact ⟨_, (if_neg h).trans (if_neg h1), rfl, Nat.zero_le _⟩
theorem rd_kinds (row : List S35) (n : Int) (h0 : 0 ≤ n) (h1 : n < (row.length : Int)) : rd (kindsP row) n = (rd_T35 row n).f0 := by
  obtain ⟨m, rfl⟩ : ∃ m : Nat, n = (m : Int) := ⟨n.toNat, by omega⟩
  rw [rdV_get (by omega)]
  unfold rd kindsP
  rw [Int.toNat_natCast, List.getD_eq_getElem?_getD, List.getElem?_map, List.getElem?_eq_getElem (by omega)]
  rfl
theorem kd_one {vs : List S35} (h : vs.length = 1) : ∃ a, vs = [a] := by
  match vs, h with
  | [a], _ => exact ⟨a, rfl⟩
theorem kd_two {vs : List S35} (h : vs.length = 2) : ∃ a b, vs = [a, b] := by
  match vs, h with
  | [a, b], _ => exact ⟨a, b, rfl⟩
theorem kd_three {vs : List S35} (h : vs.length = 3) : ∃ a b c, vs = [a, b, c] := by
  match vs, h with
  | [a, b, c], _ => exact ⟨a, b, c, rfl⟩
theorem do_some (row vs : List S35) (op n : Int) (s : ByteArray) (hvs : (vs.length : Int) = arP op) (hsz : ∀ v ∈ vs, v.f2.size ≤ 5000) (hrow : ∀ v ∈ row, v.f2.size ≤ 5000) (hs : s.size ≤ 5000)
    (hop : 0 ≤ op ∧ op < 19) (h0 : op = 0 → 0 ≤ n ∧ n < (row.length : Int)) (hm : 3 ≤ op → (madeP op (kindsP vs)).2 = true) :
    ∃ v, (∀ m, expr_do.f (m + 1) op n s vs row = some v) ∧ (v.2.2.2 = 0 → v.1 = kdP (kindsP row) op n (kindsP vs) ∧ v.2.2.1.size ≤ 5000) := by
  by_cases o0 : op = 0
  · subst o0
    obtain ⟨g0, g1⟩ := h0 rfl
    obtain ⟨v, hv, h1, h2⟩ := plain_kind (rd_T35 row n).f0 (rd_T35 row n).f1 (rd_T35 row n).f2
    refine ⟨(v.1, v.2.1, v.2.2, 0), fun m => by unfold expr_do.f; rw [if_pos rfl, if_pos g0, if_pos g1, hv, Option.bind_some], fun _ => ⟨?_, ?_⟩⟩
    · unfold kdP
      rw [if_pos rfl, rd_kinds row n g0 g1]; exact h1
    · have : (rd_T35 row n).f2.size ≤ 5000 := by
        obtain ⟨m, rfl⟩ : ∃ m : Nat, n = (m : Int) := ⟨n.toNat, by omega⟩
        rw [rdV_get (by omega)]; exact hrow _ (List.getElem_mem _)
      exact Nat.le_trans h2 this
  by_cases o1 : op = 1
  · subst o1
    exact ⟨(0, n, (⟨#[]⟩ : ByteArray), 0), fun m => by unfold expr_do.f expr_number.f; rw [if_neg o0, if_pos rfl, Option.bind_some], fun _ => ⟨rfl, Nat.zero_le _⟩⟩
  by_cases o2 : op = 2
  · subst o2
    exact ⟨(1, 0, s, 0), fun m => by unfold expr_do.f; rw [if_neg o0, if_neg o1, if_pos rfl], fun _ => ⟨rfl, hs⟩⟩
  have hm := hm (by omega)
  have hk : kdP (kindsP row) op n (kindsP vs) = (madeP op (kindsP vs)).1 := by unfold kdP; rw [if_neg o0, if_neg o2, if_neg o1]
  rw [hk]
  by_cases o8 : op = 8
  · subst o8
    obtain ⟨a, rfl⟩ := kd_one (show vs.length = 1 by have : arP 8 = 1 := rfl; omega)
    obtain ⟨p, hp⟩ := Neg_some (rd_T35 [a] 0).f1
    exact ⟨(0, p.1, (⟨#[]⟩ : ByteArray), p.2), fun m => by unfold expr_do.f expr_number.f; rw [if_neg o0, if_neg o1, if_neg o2, if_pos rfl, if_pos (by simp), hp, Option.bind_some, Option.bind_some], fun _ => ⟨rfl, Nat.zero_le _⟩⟩
  by_cases o11 : op = 11
  · subst o11
    obtain ⟨a, rfl⟩ := kd_one (show vs.length = 1 by have : arP 11 = 1 := rfl; omega)
    exact ⟨(0, (if ((rd_T35 [a] 0).f1 == 0) = true then 1 else 0), (⟨#[]⟩ : ByteArray), 0), fun m => by unfold expr_do.f; rw [if_neg o0, if_neg o1, if_neg o2, if_neg o8, if_pos rfl, if_pos (by simp), flag_is, Option.bind_some], fun _ => ⟨rfl, Nat.zero_le _⟩⟩
  by_cases o15 : op = 15
  · subst o15
    obtain ⟨a, rfl⟩ := kd_one (show vs.length = 1 by have : arP 15 = 1 := rfl; omega)
    exact ⟨(0, ((rd_T35 [a] 0).f2.size : Int), (⟨#[]⟩ : ByteArray), 0), fun m => by unfold expr_do.f expr_number.f; rw [if_neg o0, if_neg o1, if_neg o2, if_neg o8, if_neg o11, if_pos rfl, if_pos (by simp), Option.bind_some], fun _ => ⟨rfl, Nat.zero_le _⟩⟩
  by_cases o14 : op = 14
  · subst o14
    obtain ⟨a, b, c, rfl⟩ := kd_three (show vs.length = 3 by have : arP 14 = 3 := rfl; omega)
    have e0 : rd_T35 [a, b, c] 0 = a := rfl
    have e1 : rd_T35 [a, b, c] 1 = b := rfl
    have e2 : rd_T35 [a, b, c] 2 = c := rfl
    have hmd : madeP 14 (kindsP [a, b, c]) = if a.f0 = 0 then (b.f0, b.f0 == c.f0) else (b.f0, false) := rfl
    have hab : (madeP 14 (kindsP [a, b, c])).1 = b.f0 ∧ b.f0 = c.f0 := by
      rw [hmd] at hm ⊢
      split at hm
      · rename_i h; rw [if_pos h]; exact ⟨rfl, by simpa using hm⟩
      · simp at hm
    by_cases hz : a.f1 = 0
    · refine ⟨(c.f0, c.f1, c.f2, 0), fun m => by unfold expr_do.f; rw [if_neg o0, if_neg o1, if_neg o2, if_neg o8, if_neg o11, if_neg o15, if_pos rfl, if_pos (by simp), e0, if_pos hz, if_pos (by simp), e2], fun _ => ⟨?_, hsz c (by simp)⟩⟩
      rw [hab.1, hab.2]
    · refine ⟨(b.f0, b.f1, b.f2, 0), fun m => by unfold expr_do.f; rw [if_neg o0, if_neg o1, if_neg o2, if_neg o8, if_neg o11, if_neg o15, if_pos rfl, if_pos (by simp), e0, if_neg hz, if_pos (by simp), e1], fun _ => ⟨?_, hsz b (by simp)⟩⟩
      rw [hab.1]
  · have har : arP op = 2 := by unfold arP; rw [if_neg (by omega), if_neg (by omega), if_neg o14]
    obtain ⟨a, b, rfl⟩ := kd_two (show vs.length = 2 by omega)
    have hmd : madeP op (kindsP [a, b]) = if op = 9 ∨ op = 10 then (0, a.f0 == b.f0) else if op = 17 ∨ op = 18 then (a.f0, a.f0 == b.f0) else if op = 16 then (1, [a.f0, b.f0].all fun k => k == 1) else (0, [a.f0, b.f0].all fun k => k == 0) := by
      unfold madeP
      rw [if_neg o14, if_neg o15]
      rfl
    obtain ⟨v, hv, h⟩ := pair_some op a b (hsz a (by simp)) (hsz b (by simp)) (fun h => by
      rw [hmd, if_neg (by omega), if_pos h] at hm
      simpa using hm)
    refine ⟨v, fun m => by unfold expr_do.f; rw [if_neg o0, if_neg o1, if_neg o2, if_neg o8, if_neg o11, if_neg o15, if_neg o14, if_pos (by simp), if_pos (by simp)]; erw [hv m]; rfl, fun he => ?_⟩
    obtain ⟨h1, h2⟩ := h he
    refine ⟨?_, h2⟩
    rw [h1, hmd]
    by_cases g1 : op = 17 ∨ op = 18
    · rw [if_pos g1, if_neg (by omega), if_pos g1]
    · rw [if_neg g1]
      by_cases g2 : op = 16
      · rw [if_pos g2, if_neg (by omega), if_neg g1, if_pos g2]
      · rw [if_neg g2]
        split
        · rfl
        · rfl

theorem kindsP_length (l : List S35) : (kindsP l).length = l.length := by unfold kindsP; rw [List.length_map]
theorem kindsP_drop (l : List S35) (n : Nat) : kindsP (l.drop n) = (kindsP l).drop n := by unfold kindsP; rw [List.map_drop]
theorem kindsP_take (l : List S35) (n : Nat) : kindsP (l.take n) = (kindsP l).take n := by unfold kindsP; rw [List.map_take]
theorem arity_ev (op : Int) (k : Nat) : expr_arity.f (k + 2) op = some (arP op) := arity_is k op
/-- What a good step of the kinds comes to. -/
theorem stepP_ok {cols ks : List Int} {op n : Int} {s : ByteArray} (h : (stepP cols op n s ks).1 = 0) :
    (0 ≤ op ∧ op < 19) ∧ (op = 0 → 0 ≤ n ∧ n < (cols.length : Int)) ∧ arP op ≤ (ks.length : Int) ∧ (3 ≤ op → (madeP op (ks.drop ((ks.length : Int) - arP op).toNat)).2 = true) ∧
    (stepP cols op n s ks).2 = ks.take ((ks.length : Int) - arP op).toNat ++ [kdP cols op n (ks.drop ((ks.length : Int) - arP op).toNat)] ∧ (ks.take ((ks.length : Int) - arP op).toNat).length < 16 ∨ ks.length > 16 := by
  by_cases hlen : ks.length > 16
  · exact .inr hlen
  refine .inl ?_
  have push : ∀ (kd : Int) (st : List Int), st.length ≤ 16 → (pushS kd st).1 = 0 → (pushS kd st).2 = st ++ [kd] ∧ st.length < 16 := by
    intro kd st hst hp
    unfold pushS at hp ⊢
    by_cases e : st.length = 16
    · rw [if_pos e] at hp; exact absurd hp (by decide : ¬ (3 : Int) = 0)
    · rw [if_neg e]; exact ⟨rfl, by omega⟩
  have all0 : ks.take ((ks.length : Int) - 0).toNat = ks := List.take_of_length_le (by omega)
  unfold stepP at h ⊢
  by_cases o0 : op = 0
  · rw [if_pos o0] at h ⊢
    by_cases h1 : n < 0
    · rw [if_pos h1] at h; exact absurd h (by decide : ¬ (9 : Int) = 0)
    by_cases h2 : n ≥ (cols.length : Int)
    · rw [if_neg h1, if_pos h2] at h; exact absurd h (by decide : ¬ (9 : Int) = 0)
    rw [if_neg h1, if_neg h2] at h ⊢
    obtain ⟨p1, p2⟩ := push _ _ (by omega) h
    have ha : arP op = 0 := by rw [o0]; rfl
    refine ⟨by omega, fun _ => by omega, by omega, fun h => by omega, ?_, ?_⟩
    · rw [p1, ha, all0]; unfold kdP; rw [if_pos o0]
    · rw [ha, all0]; exact p2
  rw [if_neg o0] at h ⊢
  by_cases o2 : op = 2
  · rw [if_pos o2] at h ⊢
    by_cases h1 : (s.size : Int) > 4096
    · rw [if_pos h1] at h; exact absurd h (by decide : ¬ (2 : Int) = 0)
    rw [if_neg h1] at h ⊢
    obtain ⟨p1, p2⟩ := push _ _ (by omega) h
    have ha : arP op = 0 := by rw [o2]; rfl
    refine ⟨by omega, fun h => absurd h o0, by omega, fun h => by omega, ?_, ?_⟩
    · rw [p1, ha, all0]; unfold kdP; rw [if_neg o0, if_pos o2]
    · rw [ha, all0]; exact p2
  rw [if_neg o2] at h ⊢
  by_cases o1 : op = 1
  · rw [if_pos o1] at h ⊢
    obtain ⟨p1, p2⟩ := push _ _ (by omega) h
    have ha : arP op = 0 := by rw [o1]; rfl
    refine ⟨by omega, fun h => absurd h o0, by omega, fun h => by omega, ?_, ?_⟩
    · rw [p1, ha, all0]; unfold kdP; rw [if_neg o0, if_neg o2, if_pos o1]
    · rw [ha, all0]; exact p2
  rw [if_neg o1] at h ⊢
  by_cases ol : op < 0
  · rw [if_pos ol] at h; exact absurd h (by decide : ¬ (8 : Int) = 0)
  rw [if_neg ol] at h ⊢
  by_cases oh : op ≥ 19
  · rw [if_pos oh] at h; exact absurd h (by decide : ¬ (8 : Int) = 0)
  rw [if_neg oh] at h ⊢
  by_cases hl : (ks.length : Int) < arP op
  · rw [if_pos hl] at h; exact absurd h (by decide : ¬ (6 : Int) = 0)
  rw [if_neg hl] at h ⊢
  by_cases hm : (madeP op (ks.drop ((ks.length : Int) - arP op).toNat)).2 = true
  · rw [if_pos hm] at h ⊢
    obtain ⟨p1, p2⟩ := push _ _ (by rw [List.length_take]; omega) h
    refine ⟨by omega, fun h => absurd h o0, by omega, fun _ => hm, ?_, p2⟩
    rw [p1]; unfold kdP; rw [if_neg o0, if_neg o2, if_neg o1]
  · rw [if_neg hm] at h; exact absurd h (by decide : ¬ (80 : Int) = 0)
theorem eval_loop (ts : List S41) (row : List S35) (hts : ts.length ≤ 64) (hrow : ∀ v ∈ row, v.f2.size ≤ 5000) (hsz : ∀ t ∈ ts, t.f2.size ≤ 5000) (kd at_ : Int) (d : Nat) :
    ∀ (st : List S35) (i : Nat), i ≤ ts.length → ts.length - i = d → st.length ≤ 16 → (∀ v ∈ st, v.f2.size ≤ 5000) → Ev (fun k => expr_Type.l0 k ts (kindsP row) (kindsP st) (i : Int)) (kd, 0, at_) →
    ∃ v, Ev (fun k => expr_Eval.l1 k row st ts (ts.length : Int) (i : Int)) v ∧ (v.2.2.2 = 0 → v.1 = kd) := by
  induction d with
  | zero =>
    intro st i hi hd hst hss hT
    have e : i = ts.length := by omega
    subst e
    have hT2 := Ev_back (f := fun k => if (kindsP st).length = 1 then some (rd (kindsP st) 0, (0 : Int), (ts.length : Int)) else some (0, 6, (ts.length : Int))) (fun k => type_end ts (kindsP row) (kindsP st) k) hT
    by_cases h : (kindsP st).length = 1
    · have := Ev_unique hT2 (Ev.congr (fun k => if_pos h) (Ev.now _))
      injection this with h1 _
      rw [kindsP_length] at h
      obtain ⟨a, rfl⟩ := kd_one h
      exact ⟨_, Ev.step (fun k => ev_end k row [a] ts (by simp)) (Ev.now _), fun _ => h1.symm⟩
    · have := Ev_unique hT2 (Ev.congr (fun k => if_neg h) (Ev.now _))
      simp at this
  | succ d ih =>
    intro st i hi hd hst hss hT
    have hi2 : i < ts.length := by omega
    have hg : rd_T41 ts (i : Int) = ts[i] := by unfold rd_T41; rw [List.getD_eq_getElem?_getD, Int.toNat_natCast, List.getElem?_eq_getElem hi2]; rfl
    have hT2 : Ev (fun k => if (stepP (kindsP row) ts[i].f0 ts[i].f1 ts[i].f2 (kindsP st)).1 = 0 then expr_Type.l0 (k + 2) ts (kindsP row) (stepP (kindsP row) ts[i].f0 ts[i].f1 ts[i].f2 (kindsP st)).2 ((i + 1 : Nat) : Int) else some (0, (stepP (kindsP row) ts[i].f0 ts[i].f1 ts[i].f2 (kindsP st)).1, (i : Int))) (kd, 0, at_) := by
      obtain ⟨K, hK⟩ := hT
      refine ⟨K, fun k hk => ?_⟩
      have h1 := hK (k + 3) (by omega)
      have h2 := type_step ts (kindsP row) (kindsP st) i hi2 k
      rw [hg] at h2
      exact h2.symm.trans h1
    by_cases h : (stepP (kindsP row) ts[i].f0 ts[i].f1 ts[i].f2 (kindsP st)).1 = 0
    case neg =>
      have := Ev_unique hT2 (Ev.congr (fun k => if_neg h) (Ev.now _))
      simp only [Prod.mk.injEq] at this
      exact absurd this.2.1.symm h
    have hT3 : Ev (fun k => expr_Type.l0 k ts (kindsP row) (stepP (kindsP row) ts[i].f0 ts[i].f1 ts[i].f2 (kindsP st)).2 ((i + 1 : Nat) : Int)) (kd, 0, at_) := Ev_up 2 (Ev.congr (fun k => (if_pos h).symm) hT2)
    rcases stepP_ok h with ⟨g1, g2, g3, g4, g5, g6⟩ | g
    case inr => rw [kindsP_length] at g; omega
    rw [kindsP_length] at g3 g4 g5 g6
    have har := arP_nonneg ts[i].f0
    obtain ⟨m, hm⟩ : ∃ m : Nat, m = ((st.length : Int) - arP ts[i].f0).toNat := ⟨_, rfl⟩
    rw [← hm] at g4 g5 g6
    rw [← kindsP_drop] at g4 g5
    rw [← kindsP_take] at g5 g6
    rw [kindsP_length] at g6
    have hmem : ∀ v ∈ st.drop m, v.f2.size ≤ 5000 := fun v hv => hss v (List.mem_of_mem_drop hv)
    obtain ⟨v, hv, hvk⟩ := do_some row (st.drop m) ts[i].f0 ts[i].f1 ts[i].f2 (by rw [List.length_drop]; omega) hmem hrow (hsz _ (List.getElem_mem hi2)) g1 (fun h => by have := g2 h; rw [kindsP_length] at this; exact this) g4
    have hstep : ∀ k, expr_Eval.l1 (k + 2 + 1) row st ts (ts.length : Int) (i : Int) = if v.2.2.2 = 0 then expr_Eval.l1 (k + 2) row (st.take m ++ [(⟨v.1, v.2.1, v.2.2.1⟩ : S35)]) ts (ts.length : Int) ((i + 1 : Nat) : Int) else some (0, 0, (⟨#[]⟩ : ByteArray), v.2.2.2) := by
      intro k
      have h1 := ev_step (k + 2) row st ts (i : Int) (arP ts[i].f0) (by omega) (by omega) (by omega) (by rw [hg]; exact arity_ev _ k) har.1 (by omega) (by omega)
      rw [hg, ← hm, hv (k + 1), Option.bind_some] at h1
      exact h1
    by_cases he : v.2.2.2 = 0
    · obtain ⟨r, hr, hrk⟩ := ih (st.take m ++ [(⟨v.1, v.2.1, v.2.2.1⟩ : S35)]) (i + 1) (by omega) (by omega) (by rw [List.length_append, List.length_singleton]; omega) (fun u hu => by
        rcases List.mem_append.1 hu with hu | hu
        · exact hss u (List.mem_of_mem_take hu)
        · simp at hu; subst hu; exact (hvk he).2) (by
          have e : kindsP (st.take m ++ [(⟨v.1, v.2.1, v.2.2.1⟩ : S35)]) = (stepP (kindsP row) ts[i].f0 ts[i].f1 ts[i].f2 (kindsP st)).2 := by
            rw [g5, ← (hvk he).1]
            unfold kindsP
            rw [List.map_append]; rfl
          rw [e]; exact hT3)
      refine ⟨r, ?_, hrk⟩
      obtain ⟨K, hK⟩ := hr
      refine ⟨K + 3, fun k hk => ?_⟩
      obtain ⟨q, rfl⟩ : ∃ q, k = q + 2 + 1 := ⟨k - 3, by omega⟩
      show expr_Eval.l1 (q + 2 + 1) row st ts (ts.length : Int) (i : Int) = some r
      rw [hstep q, if_pos he]
      exact hK (q + 2) (by omega)
    · exact ⟨(0, 0, (⟨#[]⟩ : ByteArray), v.2.2.2), Ev_from 3 (fun k => by show expr_Eval.l1 (k + 2 + 1) row st ts (ts.length : Int) (i : Int) = _; rw [hstep k, if_neg he]), fun h => absurd h he⟩

theorem eval_some (ts : List S41) (row : List S35) (hr : row.length ≤ 30) (hrow : ∀ v ∈ row, v.f2.size ≤ 5000) (hsz : ∀ t ∈ ts, t.f2.size ≤ 5000) (kd e at_ : Int) (hT : Ev (fun k => expr_Type.f k ts (kindsP row)) (kd, e, at_)) :
    ∃ v, Ev (fun k => expr_Eval.f k ts row) v ∧ (e ≠ 0 → v.2.2.2 = e) ∧ (e = 0 → v.2.2.2 = 0 → v.1 = kd) := by
  have up : ∀ {r}, Ev (fun k => (expr_Type.f k ts (kindsP row)).bind fun b => if b.2.1 = 0 then expr_Eval.l1 k row ([] : List S35) ts (ts.length : Int) 0 else some (0, 0, (⟨#[]⟩ : ByteArray), b.2.1)) r → Ev (fun k => expr_Eval.f k ts row) r := by
    intro r h
    obtain ⟨K, hK⟩ := h
    refine ⟨K + row.length + 1, fun k hk => ?_⟩
    obtain ⟨m, rfl⟩ : ∃ m, k = m + row.length + 1 := ⟨k - row.length - 1, by omega⟩
    show expr_Eval.f (m + row.length + 1) ts row = some r
    rw [eval_is m ts row (by omega)]
    exact hK m (by omega)
  by_cases he : e = 0
  · subst he
    obtain ⟨h1, h2⟩ := type_ok hT
    obtain ⟨v, hv, hk⟩ := eval_loop ts row h1 hrow hsz kd at_ ts.length [] 0 (by omega) (by omega) (by simp) (by simp) h2
    exact ⟨v, up (Ev.bind hT (Ev.congr (fun k => if_pos rfl) hv)), fun h => absurd rfl h, fun _ => hk⟩
  · exact ⟨(0, 0, (⟨#[]⟩ : ByteArray), e), up (Ev.bind hT (Ev.congr (fun k => if_neg he) (Ev.now _))), fun _ => rfl, fun h => absurd h he⟩
/-! ### columns that are not looked at -/
theorem do_same (row row' vs : List S35) (op n : Int) (s : ByteArray) (k : Nat) (hl : row.length = row'.length) (h : op = 0 → 0 ≤ n → n < (row.length : Int) → rd_T35 row n = rd_T35 row' n) : expr_do.f k op n s vs row = expr_do.f k op n s vs row' := by
  unfold expr_do.f
  by_cases o0 : op = 0
  · rw [if_pos o0, if_pos o0, ← hl]
    by_cases h0 : 0 ≤ n
    · by_cases h1 : n < (row.length : Int)
      · rw [if_pos h0, if_pos h0, if_pos h1, if_pos h1, h o0 h0 h1]
      · rw [if_pos h0, if_pos h0, if_neg h1, if_neg h1]
    · rw [if_neg h0, if_neg h0]
  · rw [if_neg o0, if_neg o0]
theorem l1_same (ts : List S41) (row row' : List S35) (L : Int) (hl : row.length = row'.length) (h : ∀ t ∈ ts, t.f0 = 0 → 0 ≤ t.f1 → t.f1 < (row.length : Int) → rd_T35 row t.f1 = rd_T35 row' t.f1) : ∀ (k : Nat) (st : List S35) (i : Int), expr_Eval.l1 k row st ts L i = expr_Eval.l1 k row' st ts L i
  | 0, st, i => by rw [expr_Eval.l1, expr_Eval.l1]
  | k + 1, st, i => by
    rw [expr_Eval.l1, expr_Eval.l1]
    by_cases c1 : i < L
    case neg => rw [if_neg c1, if_neg c1]
    by_cases c2 : 0 ≤ i
    case neg => rw [if_pos c1, if_pos c1, if_neg c2, if_neg c2]
    by_cases c3 : i < (ts.length : Int)
    case neg => rw [if_pos c1, if_pos c1, if_pos c2, if_pos c2, if_neg c3, if_neg c3]
    rw [if_pos c1, if_pos c1, if_pos c2, if_pos c2, if_pos c3, if_pos c3]
    have hmem : rd_T41 ts i ∈ ts := by
      unfold rd_T41
      rw [List.getD_eq_getElem?_getD, List.getElem?_eq_getElem (by omega)]; exact List.getElem_mem _
    have hd : ∀ vs, expr_do.f k (rd_T41 ts i).f0 (rd_T41 ts i).f1 (rd_T41 ts i).f2 vs row = expr_do.f k (rd_T41 ts i).f0 (rd_T41 ts i).f1 (rd_T41 ts i).f2 vs row' := fun vs => do_same row row' vs _ _ _ k hl (h _ hmem)
    simp only [hd, l1_same ts row row' L hl h k]
theorem eval_same (ts : List S41) (row row' : List S35) (hr : row.length ≤ 30) (hl : row.length = row'.length) (hk : kindsP row = kindsP row') (h : ∀ t ∈ ts, t.f0 = 0 → 0 ≤ t.f1 → t.f1 < (row.length : Int) → rd_T35 row t.f1 = rd_T35 row' t.f1) {v : Int × Int × ByteArray × Int} (hv : Ev (fun k => expr_Eval.f k ts row) v) : Ev (fun k => expr_Eval.f k ts row') v := by
  refine Ev_shift (row.length + 1) (fun k => ?_) hv
  have h1 := eval_is k ts row (by omega)
  have h2 := eval_is k ts row' (by omega)
  rw [← hl, ← hk] at h2
  show expr_Eval.f (k + row.length + 1) ts row = expr_Eval.f (k + row.length + 1) ts row'
  rw [h1, h2]
  congr 1
  funext b
  rw [l1_same ts row row' (ts.length : Int) hl h k]
theorem cols_is (l : List S41) (hl : (l.length : Int) ≤ 1000) : ∃ r, Ev (fun k => expr_Cols.f k l) r ∧ r.length ≤ l.length ∧ ∀ x, x ∈ r ↔ x ∈ colsP l := by
  have h1 := impl_cols l hl l.length [] 0 (by omega) (by omega) (by rw [List.take_zero]; rfl)
  have hs := colsP_short l
  have hlen := Lib.compact_length_le ((colsP l).mergeSort fun x y => decide (x ≤ y))
  rw [List.length_mergeSort] at hlen
  exact ⟨_, h1, by omega, fun x => by rw [compact_mem, List.mem_mergeSort]⟩
theorem long_terms (l : List S41) : (Ev (fun k => runnelref08_Long.f k l) true) ∨ ((l.length : Int) ≤ 80 ∧ Ev (fun k => runnelref08_Long.f k l) false ∧ ∀ t ∈ l, t.f2.size ≤ 5000) := by
  have loop : ∀ (_ : (l.length : Int) ≤ 1000) (d : Nat) (i : Nat), i ≤ l.length → l.length - i = d → (∀ j (h : j < l.length), j < i → l[j].f2.size ≤ 5000) → Ev (fun k => runnelref08_Long.l0 k l (i : Int)) true ∨ (Ev (fun k => runnelref08_Long.l0 k l (i : Int)) false ∧ ∀ t ∈ l, t.f2.size ≤ 5000) := by
    intro hl d
    induction d with
    | zero =>
      intro i hi hd hq
      refine .inr ⟨Ev.step (fun k => by rw [runnelref08_Long.l0, if_neg (by omega)]) (Ev.now _), fun t ht => ?_⟩
      obtain ⟨j, hj, rfl⟩ := List.mem_iff_getElem.1 ht
      exact hq j hj (by omega)
    | succ d ih =>
      intro i hi hd hq
      have hg : rd_T41 l (i : Int) = l[i]'(by omega) := by rw [rdT_get (by omega) (by omega)]; simp
      by_cases h : ((rd_T41 l (i : Int)).f2.size : Int) > 5000
      · exact .inl (Ev.step (fun k => by rw [runnelref08_Long.l0, if_pos (by omega), if_pos (by omega), if_pos h]) (Ev.now _))
      · have := ih (i + 1) (by omega) (by omega) (fun j hj hji => by
          by_cases e : j = i
          · subst e; rw [hg] at h; omega
          · exact hq j hj (by omega))
        rcases this with h1 | ⟨h1, h2⟩
        · exact .inl (Ev.step (fun k => by rw [runnelref08_Long.l0, if_pos (by omega), if_pos (by omega), if_neg h, wnext i (by omega)]) h1)
        · exact .inr ⟨Ev.step (fun k => by rw [runnelref08_Long.l0, if_pos (by omega), if_pos (by omega), if_neg h, wnext i (by omega)]) h1, h2⟩
  unfold runnelref08_Long.f
  by_cases h : (l.length : Int) > 80
  · exact .inl (Ev.congr (fun k => if_pos h) (Ev.now _))
  · rcases loop (by omega) l.length 0 (by omega) (by omega) (fun j _ h => by omega) with h1 | ⟨h1, h2⟩
    · exact .inl (Ev.congr (fun k => if_neg h) h1)
    · exact .inr ⟨by omega, Ev.congr (fun k => if_neg h) h1, h2⟩
theorem long_row (l : List S35) : (Ev (fun k => runnelref03_Long.f k l) true) ∨ (l.length ≤ 30 ∧ Ev (fun k => runnelref03_Long.f k l) false ∧ ∀ t ∈ l, t.f2.size ≤ 5000) := by
  have loop : ∀ (_ : (l.length : Int) ≤ 1000) (d : Nat) (i : Nat), i ≤ l.length → l.length - i = d → (∀ j (h : j < l.length), j < i → l[j].f2.size ≤ 5000) → Ev (fun k => runnelref03_Long.l0 k l (i : Int)) true ∨ (Ev (fun k => runnelref03_Long.l0 k l (i : Int)) false ∧ ∀ t ∈ l, t.f2.size ≤ 5000) := by
    intro hl d
    induction d with
    | zero =>
      intro i hi hd hq
      refine .inr ⟨Ev.step (fun k => by rw [runnelref03_Long.l0, if_neg (by omega)]) (Ev.now _), fun t ht => ?_⟩
      obtain ⟨j, hj, rfl⟩ := List.mem_iff_getElem.1 ht
      exact hq j hj (by omega)
    | succ d ih =>
      intro i hi hd hq
      have hg : rd_T35 l (i : Int) = l[i]'(by omega) := rdV_get (by omega)
      by_cases h : ((rd_T35 l (i : Int)).f2.size : Int) > 5000
      · exact .inl (Ev.step (fun k => by rw [runnelref03_Long.l0, if_pos (by omega), if_pos (by omega), if_pos h]) (Ev.now _))
      · have := ih (i + 1) (by omega) (by omega) (fun j hj hji => by
          by_cases e : j = i
          · subst e; rw [hg] at h; omega
          · exact hq j hj (by omega))
        rcases this with h1 | ⟨h1, h2⟩
        · exact .inl (Ev.step (fun k => by rw [runnelref03_Long.l0, if_pos (by omega), if_pos (by omega), if_neg h, wnext i (by omega)]) h1)
        · exact .inr ⟨Ev.step (fun k => by rw [runnelref03_Long.l0, if_pos (by omega), if_pos (by omega), if_neg h, wnext i (by omega)]) h1, h2⟩
  unfold runnelref03_Long.f
  by_cases h : (l.length : Int) > 30
  · exact .inl (Ev.congr (fun k => if_pos h) (Ev.now _))
  · rcases loop (by omega) l.length 0 (by omega) (by omega) (fun j _ h => by omega) with h1 | ⟨h1, h2⟩
    · exact .inl (Ev.congr (fun k => if_neg h) h1)
    · exact .inr ⟨by omega, Ev.congr (fun k => if_neg h) h1, h2⟩
theorem live_ev : Ev (fun k => runnellaw08_live.f k) true := Ev.of (fun k => runnellaw08_live.mono k) (k := 40) (by decide +kernel)
/-- A row that agrees with another one where it is looked at. -/
structure Like (l : List S41) (r t : List S35) : Prop where
  len : r.length = t.length
  kinds : kindsP r = kindsP t
  same : ∀ c ∈ colsP l, 0 ≤ c → c < (r.length : Int) → rd_T35 r c = rd_T35 t c
theorem like_set {l : List S41} {r t : List S35} (h : Like l r t) (i : Nat) (hi : i < t.length) (v : S35) (hk : v.f0 = t[i].f0) (hn : (i : Int) ∉ colsP l) : Like l r (t.set i v) := by
  refine ⟨by rw [List.length_set]; exact h.len, ?_, fun c hc h0 h1 => ?_⟩
  · rw [h.kinds]
    unfold kindsP
    rw [List.map_set]
    have : (t.map (·.f0))[i]'(by rw [List.length_map]; exact hi) = v.f0 := by rw [List.getElem_map]; exact hk.symm
    rw [← this, List.set_getElem_self]
  · rw [h.same c hc h0 h1]
    obtain ⟨m, rfl⟩ : ∃ m : Nat, c = (m : Int) := ⟨c.toNat, by omega⟩
    have hm : m ≠ i := fun e => hn (by rw [← e]; exact hc)
    have hl := h.len
    rw [rdV_get (by omega), rdV_get (by rw [List.length_set]; omega), List.getElem_set_ne (fun e => hm e.symm)]
theorem ExprKinds : runnellaw08_ExprKinds.Pure := by
  intro l r s _ _ _
  suffices h : Ev (fun k => runnellaw08_ExprKinds.f k l r s) true from h.rounds
  have j0t : Ev (fun k => runnellaw08_ExprKinds.j0 k l r s true) true := Ev.step (fun k => by rw [runnellaw08_ExprKinds.j0, if_pos rfl]) (Ev.bind live_ev (Ev.now _))
  unfold runnellaw08_ExprKinds.f
  rcases long_terms l with h1 | ⟨hl, h1, hsz⟩
  · exact Ev.bind h1 (Ev.congr (fun k => if_pos rfl) j0t)
  refine Ev.bind h1 (Ev.congr (fun k => if_neg (by decide)) ?_)
  rcases long_row r with h2 | ⟨hr, h2, hrz⟩
  · exact Ev.bind h2 (Ev.congr (fun k => if_pos rfl) j0t)
  refine Ev.bind h2 (Ev.congr (fun k => if_neg (by decide)) ?_)
  rcases long_row s with h3 | ⟨hs, h3, _⟩
  · exact Ev.bind h3 j0t
  refine Ev.bind h3 (Ev.step (fun k => by rw [runnellaw08_ExprKinds.j0, if_neg (by decide)]) ?_)
  obtain ⟨⟨kd, e, at_⟩, hT⟩ := type_some l (kindsP r)
  obtain ⟨v, hv, hv1, hv2⟩ := eval_some l r hr hrz hsz kd e at_ hT
  obtain ⟨cs, hcs, hcl, hcm⟩ := cols_is l (by omega)
  -- behind the tests on the row as it came: the other row
  have last : ∀ t, Like l r t → Ev (fun k => runnellaw08_ExprKinds.j4 k l s v.2.2.2 cs t (0 : Int) false v.1 v.2.1 v.2.2.1) true ∧ ∀ i, Ev (fun k => runnellaw08_ExprKinds.j4 k l s v.2.2.2 cs t i false v.1 v.2.1 v.2.2.1) true := by
    intro t ht
    have go : ∀ i, Ev (fun k => runnellaw08_ExprKinds.j4 k l s v.2.2.2 cs t i false v.1 v.2.1 v.2.2.1) true := by
      intro i
      refine Ev.step (fun k => by rw [runnellaw08_ExprKinds.j4, if_neg (by decide)]) ?_
      refine Ev.bind (eval_same l r t hr ht.len ht.kinds (fun x hx h0 h1 h2 => ht.same _ (mem_colsP.2 ⟨x, hx, h0, rfl⟩) h1 h2) hv) ?_
      refine Ev.congr (fun k => if_pos (by simp)) ?_
      refine Ev.congr (f := fun k => (runnellaw08_live.f k).bind fun t => some t) (fun k => ?_) (Ev.bind live_ev (Ev.now _))
      unfold runnellaw08_code.f
      rw [Option.bind_some, Option.bind_some, if_pos rfl]
    exact ⟨go 0, go⟩
  have outer : ∀ (d : Nat) (t : List S35) (i : Nat), i ≤ r.length → r.length - i = d → Like l r t → Ev (fun k => runnellaw08_ExprKinds.l1 k l s v.2.2.2 cs t (i : Int) v.1 v.2.1 v.2.2.1) true := by
    intro d
    induction d with
    | zero =>
      intro t i hi hd ht
      have hlen := ht.len
      exact Ev.step (fun k => by rw [runnellaw08_ExprKinds.l1, if_neg (by omega)]) ((last t ht).2 _)
    | succ d ih =>
      intro t i hi hd ht
      have hlen := ht.len
      refine Ev.step (fun k => by rw [runnellaw08_ExprKinds.l1, if_pos (by omega)]) ?_
      by_cases hsl : (i : Int) < (s.length : Int)
      case neg => rw [decide_eq_false hsl]; exact (last t ht).2 _
      rw [decide_eq_true hsl]
      refine Ev.step (fun k => by rw [runnellaw08_ExprKinds.j4, if_pos rfl]) ?_
      have inner : ∀ (d2 : Nat) (seen : Bool) (j : Nat), j ≤ cs.length → cs.length - j = d2 → (seen = true ∨ ∀ m (h : m < cs.length), m < j → cs[m] ≠ (i : Int)) → Ev (fun k => runnellaw08_ExprKinds.l2 k l s v.2.2.2 cs t (i : Int) seen (j : Int) v.1 v.2.1 v.2.2.1) true := by
        intro d2
        induction d2 with
        | zero =>
          intro seen j hj hd2 hq
          have hstay : Ev (fun k => runnellaw08_ExprKinds.l1 k l s v.2.2.2 cs t ((i + 1 : Nat) : Int) v.1 v.2.1 v.2.2.1) true := ih t (i + 1) (by omega) (by omega) ht
          cases seen with
          | true => exact Ev.step (fun k => by rw [runnellaw08_ExprKinds.l2, if_neg (by omega), if_pos rfl, wnext i (by omega)]) hstay
          | false =>
            have hno : (i : Int) ∉ colsP l := fun hc => by
              obtain ⟨m, hm, he⟩ := List.mem_iff_getElem.1 ((hcm _).2 hc)
              rcases hq with hq | hq
              · cases hq
              · exact hq m hm (by omega) he
            by_cases hk : (rd_T35 s (i : Int)).f0 = (rd_T35 t (i : Int)).f0
            · refine Ev.step (fun k => by rw [runnellaw08_ExprKinds.l2, if_neg (by omega), if_neg (by decide), if_pos (by omega), if_pos hsl, if_pos (by omega), if_pos hk, wnext i (by omega)]) (ih _ (i + 1) (by omega) (by omega) ?_)
              rw [Int.toNat_natCast]
              refine like_set ht i (by omega) _ ?_ hno
              rw [← rdV_get (l := t) (by omega)]
              exact hk
            · exact Ev.step (fun k => by rw [runnellaw08_ExprKinds.l2, if_neg (by omega), if_neg (by decide), if_pos (by omega), if_pos hsl, if_pos (by omega), if_neg hk, wnext i (by omega)]) hstay
        | succ d2 ih2 =>
          intro seen j hj hd2 hq
          cases seen with
          | true => exact Ev.step (fun k => by rw [runnellaw08_ExprKinds.l2, if_pos (by omega), if_pos rfl, wnext j (by omega)]) (ih2 true (j + 1) (by omega) (by omega) (.inl rfl))
          | false =>
            have hg : rd cs (j : Int) = cs[j]'(by omega) := by
              unfold rd
              rw [List.getD_eq_getElem?_getD, Int.toNat_natCast, List.getElem?_eq_getElem (by omega)]; rfl
            refine Ev.step (fun k => by rw [runnellaw08_ExprKinds.l2, if_pos (by omega), if_neg (by decide), if_pos (by omega), wnext j (by omega)]) (ih2 _ (j + 1) (by omega) (by omega) ?_)
            rw [hg]
            by_cases he : cs[j]'(by omega) = (i : Int)
            · exact .inl (by rw [he]; simp)
            · refine .inr fun m hm hmj => ?_
              by_cases e : m = j
              · subst e; exact he
              · rcases hq with hq | hq
                · cases hq
                · exact hq m hm (by omega)
      exact inner cs.length false 0 (by omega) (by omega) (.inr fun m _ h => by omega)
  have j2f : Ev (fun k => runnellaw08_ExprKinds.j2 k l r s v.2.2.2 false v.1 v.2.1 v.2.2.1) true := by
    refine Ev.step (fun k => by rw [runnellaw08_ExprKinds.j2, if_neg (by decide)]) (Ev.bind hcs ?_)
    refine Ev.congr (f := fun k => runnellaw08_ExprKinds.l1 k l s v.2.2.2 cs r 0 v.1 v.2.1 v.2.2.1) (fun k => ?_) (outer r.length r 0 (by omega) (by omega) ⟨rfl, rfl, fun _ _ _ _ => rfl⟩)
    rw [Option.bind_some, if_pos (by simp; omega)]
    rfl
  have l0 : ∀ (d : Nat) (ks : List Int) (i : Nat), i ≤ r.length → r.length - i = d → ks = kindsP (r.take i) → Ev (fun k => runnellaw08_ExprKinds.l0 k l r s ks (i : Int)) true := by
    intro d
    induction d with
    | zero =>
      intro ks i hi hd hks
      have e1 : i = r.length := by omega
      subst e1
      rw [List.take_length] at hks
      subst hks
      refine Ev.step (fun k => by rw [runnellaw08_ExprKinds.l0, if_neg (by omega)]) (Ev.bind hT (Ev.bind hv ?_))
      unfold runnellaw08_code.f
      by_cases he : e = 0
      · subst he
        by_cases hf : v.2.2.2 = 0
        · refine Ev.congr (fun k => ?_) j2f
          rw [Option.bind_some, if_pos rfl, Option.bind_some, if_pos hf, if_pos (hv2 rfl hf)]
          rfl
        · refine Ev.congr (fun k => ?_) j2f
          rw [Option.bind_some, if_pos rfl, Option.bind_some, if_neg hf]
      · have hf := hv1 he
        refine Ev.congr (fun k => ?_) j2f
        rw [Option.bind_some, if_neg he, Option.bind_some, if_pos hf, if_neg (by rw [hf]; exact he)]
    | succ d ih =>
      intro ks i hi hd hks
      have hlt : i < r.length := by omega
      have hkl : ks.length < 17592186044416 := by rw [hks, kindsP_length, List.length_take]; omega
      refine Ev.step (fun k => by rw [runnellaw08_ExprKinds.l0, if_pos (by omega), if_pos (by omega), if_pos hkl, wnext i (by omega)]) (ih _ (i + 1) (by omega) (by omega) ?_)
      rw [hks, List.take_add_one, List.getElem?_eq_getElem hlt, rdV_get hlt]
      unfold kindsP
      rw [List.map_append]; rfl
  exact l0 r.length [] 0 (by omega) (by omega) (by rw [List.take_zero]; rfl)

end Go.Proofs.Ytmamkmolgbmmaaa.Pure
