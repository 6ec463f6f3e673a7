/- ExprTypes: the kinds of a list of steps, by the program and by the definition. No condition beyond the statement's own. -/
import Derived.Test.YtfbbpbfkkcjmjaaQExprTypesx10
namespace Go.Proofs.Ytfbbpbfkkcjmjaa.Pure
open Go.RowKit Go.Proofs.Ytfbbpbfkkcjmjaa.QExprTypes Go.Proofs.YtfbbpbfkkcjmjaaW.PrintWords Go.Proofs.YtfbbpbfkkcjmjaaW.PrintLast

theorem w64 {x : Int} (h : -9223372036854775808 ≤ x ∧ x ≤ 9223372036854775807) : wrap64 x = x := by unfold wrap64; omega
theorem live_is {k : Nat} (hk : 40 ≤ k) : runnellaw08_live.f k = some true := by
  have h : runnellaw08_live.f 40 = some true := by decide +kernel
  exact at_rounds (fun k => runnellaw08_live.mono k) hk h
/-- How many values a step takes. -/
def arP (o : Int) : Int := if o = 0 ∨ o = 1 ∨ o = 2 then 0 else if o = 8 ∨ o = 11 ∨ o = 15 then 1 else if o = 14 then 3 else 2
/-- The kind of what a step makes of others, and whether it takes such. -/
def madeP (o : Int) (l : List Int) : Int × Bool :=
  if o = 9 ∨ o = 10 then (0, rd l 0 == rd l 1) else if o = 17 ∨ o = 18 then (rd l 0, rd l 0 == rd l 1)
  else if o = 14 then (if rd l 0 = 0 then (rd l 1, rd l 1 == rd l 2) else (rd l 1, false))
  else if o = 15 then (0, l.all (fun k => k == 1)) else if o = 16 then (1, l.all (fun k => k == 1)) else (0, l.all (fun k => k == 0))
theorem arity_is (k : Nat) (o : Int) : expr_arity.f (k + 2) o = some (arP o) := by
  unfold expr_arity.f arP
  by_cases h0 : o = 0
  · subst h0; simp [expr_arity.j0]
  by_cases h1 : o = 1
  · subst h1; simp [expr_arity.j0]
  by_cases h2 : o = 2
  · subst h2; simp [expr_arity.j0]
  by_cases h8 : o = 8
  · subst h8; simp [expr_arity.j0, expr_arity.j1]
  by_cases h11 : o = 11
  · subst h11; simp [expr_arity.j0, expr_arity.j1]
  by_cases h15 : o = 15
  · subst h15; simp [expr_arity.j0, expr_arity.j1]
  by_cases h14 : o = 14
  · subst h14; simp [expr_arity.j0, expr_arity.j1]
  simp [expr_arity.j0, expr_arity.j1, h0, h1, h2, h8, h11, h14, h15]
theorem made_is (k : Nat) (o : Int) (l : List Int) (h : (l.length : Int) = arP o) : expr_made.f (k + 2) o l = some (madeP o l) := by
  unfold expr_made.f madeP
  by_cases h9 : o = 9
  · subst h9
    have hl : (l.length : Int) = 2 := h
    simp [expr_made.j0, hl]
  by_cases h10 : o = 10
  · subst h10
    have hl : (l.length : Int) = 2 := h
    simp [expr_made.j0, hl]
  by_cases h17 : o = 17
  · subst h17
    have hl : (l.length : Int) = 2 := h
    simp [expr_made.j0, expr_made.j1, hl]
  by_cases h18 : o = 18
  · subst h18
    have hl : (l.length : Int) = 2 := h
    simp [expr_made.j0, expr_made.j1, hl]
  by_cases h14 : o = 14
  · subst h14
    have hl : (l.length : Int) = 3 := h
    simp [expr_made.j0, expr_made.j1, hl]
    split <;> rfl
  by_cases h15 : o = 15
  · subst h15; simp [expr_made.j0, expr_made.j1, expr_all.f]
  by_cases h16 : o = 16
  · subst h16; simp [expr_made.j0, expr_made.j1, expr_all.f]
  simp [expr_made.j0, expr_made.j1, expr_all.f, h9, h10, h17, h18, h14, h15, h16]
/-- A step of the kinds: its error, and the stack. -/
def stepP (cols : List Int) (o n : Int) (s : ByteArray) (st : List Int) : Int × List Int :=
  if o = 0 then (if n < 0 then (9, st) else if n ≥ (cols.length : Int) then (9, st) else pushS (rd cols n) st)
  else if o = 2 then (if (s.size : Int) > 4096 then (2, st) else pushS 1 st)
  else if o = 1 then pushS 0 st
  else if o < 0 then (8, st) else if o ≥ 19 then (8, st)
  else if (st.length : Int) < arP o then (6, st) else if (madeP o (st.drop ((st.length : Int) - arP o).toNat)).2 = true then pushS (madeP o (st.drop ((st.length : Int) - arP o).toNat)).1 (st.take ((st.length : Int) - arP o).toNat) else (80, st)
theorem arP_nonneg (o : Int) : 0 ≤ arP o ∧ arP o ≤ 3 := by
  unfold arP
  repeat' split
  all_goals omega
theorem step_is' (k : Nat) (cols : List Int) (o n : Int) (s : ByteArray) (st : List Int) : stepS (k + 2) cols o n s st = some (stepP cols o n s st) := by
  unfold stepS stepP
  have ha := arP_nonneg o
  by_cases o0 : o = 0
  · rw [if_pos o0, if_pos o0]; repeat' split
    all_goals rfl
  rw [if_neg o0, if_neg o0]
  by_cases o2 : o = 2
  · rw [if_pos o2, if_pos o2]; repeat' split
    all_goals rfl
  rw [if_neg o2, if_neg o2]
  by_cases o1 : o = 1
  · rw [if_pos o1, if_pos o1]
  rw [if_neg o1, if_neg o1]
  by_cases ol : o < 0
  · rw [if_pos ol, if_pos ol]
  rw [if_neg ol, if_neg ol]
  by_cases oh : o ≥ 19
  · rw [if_pos oh, if_pos oh]
  rw [if_neg oh, if_neg oh, arity_is]
  simp only [Option.bind_some]
  rw [if_neg (by omega)]
  by_cases hl : (st.length : Int) < arP o
  · rw [if_pos hl, if_pos hl]
  rw [if_neg hl, if_neg hl, made_is k o _ (by rw [List.length_drop]; omega)]
  simp only [Option.bind_some]
  split <;> rfl
theorem step_is {k : Nat} (hk : 2 ≤ k) (cols : List Int) (o n : Int) (s : ByteArray) (st : List Int) : stepS k cols o n s st = some (stepP cols o n s st) := by
  obtain ⟨k, rfl⟩ : ∃ m, k = m + 2 := ⟨k - 2, by omega⟩
  exact step_is' k cols o n s st
theorem takes_is (k : Nat) (o : Int) : runnelref08_takes.f (k + 2) o = some (arP o) := by
  unfold runnelref08_takes.f arP
  by_cases h0 : o = 0
  · subst h0; simp [runnelref08_takes.j0]
  by_cases h1 : o = 1
  · subst h1; simp [runnelref08_takes.j0]
  by_cases h2 : o = 2
  · subst h2; simp [runnelref08_takes.j0]
  by_cases h8 : o = 8
  · subst h8; simp [runnelref08_takes.j0, runnelref08_takes.j1]
  by_cases h11 : o = 11
  · subst h11; simp [runnelref08_takes.j0, runnelref08_takes.j1]
  by_cases h15 : o = 15
  · subst h15; simp [runnelref08_takes.j0, runnelref08_takes.j1]
  by_cases h14 : o = 14
  · subst h14; simp [runnelref08_takes.j0, runnelref08_takes.j1]
  simp [runnelref08_takes.j0, runnelref08_takes.j1, h0, h1, h2, h8, h11, h14, h15]
theorem drop_rd {l : List Int} {i : Int} (h0 : 0 ≤ i) (h1 : i < (l.length : Int)) : l.drop i.toNat = rd l i :: l.drop (i + 1).toNat := by
  obtain ⟨n, rfl⟩ := Int.eq_ofNat_of_zero_le h0
  have hn : n < l.length := by omega
  rw [Int.toNat_natCast, show ((n : Int) + 1).toNat = n + 1 from by omega, List.drop_eq_getElem_cons hn]
  congr 1
  unfold rd
  rw [Int.toNat_natCast, List.getD_eq_getElem?_getD, List.getElem?_eq_getElem hn, Option.getD_some]
theorem kinds_from (l : List Int) (want got : Int) (hn : (l.length : Int) ≤ 1000) (d : Nat) : ∀ (k : Nat) (i : Int), 0 ≤ i → i ≤ l.length → (l.length : Int) - i = d → d < k →
    runnelref08_kind.l0 k l want got i = some (if (l.drop i.toNat).all (fun k => k == want) = true then got else -1) := by
  induction d with
  | zero =>
    intro k i h0 h1 hd hk
    obtain ⟨k, rfl⟩ : ∃ m, k = m + 1 := ⟨k - 1, by omega⟩
    have e : l.drop i.toNat = [] := List.drop_eq_nil_of_le (by omega)
    simp only [runnelref08_kind.l0, e, List.all_nil, if_true]; rw [if_neg (by omega)]
  | succ d ih =>
    intro k i h0 h1 hd hk
    obtain ⟨k, rfl⟩ : ∃ m, k = m + 1 := ⟨k - 1, by omega⟩
    have hlt : i < (l.length : Int) := by omega
    simp only [runnelref08_kind.l0]; rw [if_pos hlt, if_pos h0, drop_rd h0 hlt, w64 (x := i + 1) (by omega)]
    by_cases e : rd l i = want
    · rw [if_pos e, ih k (i + 1) (by omega) (by omega) (by omega) (by omega), List.all_cons, e]; simp
    · rw [if_neg e, List.all_cons, beq_eq_false_iff_ne.mpr e]; simp
theorem kind_is (k : Nat) (hk : 20 ≤ k) (o : Int) (l : List Int) (h : (l.length : Int) = arP o) (ho : o ≠ 0 ∧ o ≠ 1 ∧ o ≠ 2) : runnelref08_kind.f k o l = some (if (madeP o l).2 = true then (madeP o l).1 else -1) := by
  obtain ⟨k, rfl⟩ : ∃ m, k = m + 15 := ⟨k - 15, by omega⟩
  have ha := arP_nonneg o
  have hk2 : ∀ want got, runnelref08_kind.l0 (k + 10) l want got 0 = some (if l.all (fun k => k == want) = true then got else -1) := fun want got => by
    have := kinds_from l want got (by omega) l.length (k + 10) 0 (by omega) (by omega) (by omega) (by omega)
    rw [this]; rfl
  unfold runnelref08_kind.f madeP
  by_cases h9 : o = 9
  · subst h9
    have hl : (l.length : Int) = 2 := h
    simp [runnelref08_kind.j0, hl]
    split <;> rfl
  by_cases h10 : o = 10
  · subst h10
    have hl : (l.length : Int) = 2 := h
    simp [runnelref08_kind.j0, hl]
    split <;> rfl
  by_cases h17 : o = 17
  · subst h17
    have hl : (l.length : Int) = 2 := h
    simp [runnelref08_kind.j0, runnelref08_kind.j1, hl]
    split <;> rfl
  by_cases h18 : o = 18
  · subst h18
    have hl : (l.length : Int) = 2 := h
    simp [runnelref08_kind.j0, runnelref08_kind.j1, hl]
    split <;> rfl
  by_cases h14 : o = 14
  · subst h14
    have hl : (l.length : Int) = 3 := h
    simp [runnelref08_kind.j0, runnelref08_kind.j1, hl]
    split
    · simp; split <;> rfl
    · simp
  by_cases h15 : o = 15
  · subst h15; simp [runnelref08_kind.j0, runnelref08_kind.j1, runnelref08_kind.j2, runnelref08_kind.j3, runnelref08_kind.j4, hk2]
  by_cases h16 : o = 16
  · subst h16; simp [runnelref08_kind.j0, runnelref08_kind.j1, runnelref08_kind.j2, runnelref08_kind.j3, runnelref08_kind.j4, hk2]
  simp [runnelref08_kind.j0, runnelref08_kind.j1, runnelref08_kind.j2, runnelref08_kind.j3, runnelref08_kind.j4, hk2, h9, h10, h17, h18, h14, h15, h16]
theorem fits_is (k : Nat) (hk : 30 ≤ k) (o : Int) (l : List Int) (h : (l.length : Int) = arP o) (ho : o ≠ 0 ∧ o ≠ 1 ∧ o ≠ 2) : runnelref08_fits.f k o l = some (madeP o l).2 := by
  obtain ⟨k, rfl⟩ : ∃ m, k = m + 1 := ⟨k - 1, by omega⟩
  have hkd := kind_is k (by omega) o l h ho
  unfold runnelref08_fits.f
  by_cases h9 : o = 9
  · subst h9
    have hl : (l.length : Int) = 2 := h
    simp [runnelref08_fits.j0, hl, madeP]
  by_cases h10 : o = 10
  · subst h10
    have hl : (l.length : Int) = 2 := h
    simp [runnelref08_fits.j0, hl, madeP]
  by_cases h17 : o = 17
  · subst h17
    have hl : (l.length : Int) = 2 := h
    simp [runnelref08_fits.j0, hl, madeP]
  by_cases h18 : o = 18
  · subst h18
    have hl : (l.length : Int) = 2 := h
    simp [runnelref08_fits.j0, hl, madeP]
  by_cases h14 : o = 14
  · subst h14
    have hl : (l.length : Int) = 3 := h
    simp [runnelref08_fits.j0, hl, madeP]
    split <;> simp
  simp only [runnelref08_fits.j0, h9, h10, h17, h14, if_false, hkd, Option.bind_some]
  have hp : (madeP o l).1 = 0 ∨ (madeP o l).1 = 1 := by
    unfold madeP
    simp [h9, h10, h17, h18, h14]
    split
    · simp
    · split <;> simp
  cases hm : (madeP o l).2 <;> simp [beq_eq_false_iff_ne.mpr h18] <;> omega
theorem push_ref (kd m : Int) (st : List Int) (ys : List Int) (hy : (ys.length : Int) = m) (hs : ys.length = 16 → ys = st) (hm : ys.length ≤ 16) :
    (if m ≥ 16 then some ((3 : Int), st) else some (0, ys ++ [kd])) = some (pushS kd ys) := by
  unfold pushS
  by_cases e : ys.length = 16
  · rw [if_pos (by omega), if_pos e, hs e]
  · rw [if_neg (by omega), if_neg e]
theorem refS_is {k : Nat} (hk : 40 ≤ k) (cols : List Int) (o n : Int) (s : ByteArray) (st : List Int) (hm : st.length ≤ 16) : refS k cols o n s st = some (stepP cols o n s st) := by
  have ha := arP_nonneg o
  have ht : runnelref08_takes.f k o = some (arP o) := by
    obtain ⟨k', rfl⟩ : ∃ m, k = m + 2 := ⟨k - 2, by omega⟩
    exact takes_is k' o
  unfold refS
  by_cases c8 : o < 0 ∨ o > 18
  · have hE : refE o n cols.length s = 8 := if_pos c8
    rw [hE, if_neg (by decide)]
    unfold stepP
    rw [if_neg (by omega), if_neg (by omega), if_neg (by omega)]
    split
    · rfl
    · rw [if_pos (by omega)]
  by_cases c9 : o = 0 ∧ (n < 0 ∨ n ≥ (cols.length : Int))
  · have hE : refE o n cols.length s = 9 := (if_neg c8).trans (if_pos c9)
    rw [hE, if_neg (by decide)]
    unfold stepP
    rw [if_pos c9.1]
    split
    · rfl
    · rw [if_pos (by omega)]
  by_cases c2 : o = 2 ∧ (s.size : Int) > 4096
  · have hE : refE o n cols.length s = 2 := (if_neg c8).trans ((if_neg c9).trans (if_pos c2))
    rw [hE, if_neg (by decide)]
    unfold stepP
    rw [if_neg (by omega), if_pos c2.1, if_pos c2.2]
  have hE : refE o n cols.length s = 0 := (if_neg c8).trans ((if_neg c9).trans (if_neg c2))
  rw [if_pos hE, ht]
  simp only [Option.bind_some]
  rw [if_pos ⟨ha.1, ha.2, hm⟩]
  have hall : st.take ((st.length : Int) - 0).toNat = st := List.take_of_length_le (by omega)
  by_cases o0 : o = 0
  · subst o0
    have hb : arP 0 = 0 := rfl
    have hK : ∀ l, refK k cols 0 n l = some (0, rd cols n) := fun l => rfl
    rw [hb, if_neg (by omega), hK]
    simp only [Option.bind_some, if_true]
    rw [hall, push_ref (rd cols n) _ st st (by omega) (fun _ => rfl) hm]
    unfold stepP
    rw [if_pos rfl, if_neg (by omega), if_neg (by omega)]
  by_cases o2 : o = 2
  · subst o2
    have hb : arP 2 = 0 := rfl
    have hK : ∀ l, refK k cols 2 n l = some (0, 1) := fun l => rfl
    rw [hb, if_neg (by omega), hK]
    simp only [Option.bind_some, if_true]
    rw [hall, push_ref 1 _ st st (by omega) (fun _ => rfl) hm]
    unfold stepP
    rw [if_neg o0, if_pos rfl, if_neg (by omega)]
  by_cases o1 : o = 1
  · subst o1
    have hb : arP 1 = 0 := rfl
    have hK : ∀ l, refK k cols 1 n l = some (0, 0) := fun l => rfl
    rw [hb, if_neg (by omega), hK]
    simp only [Option.bind_some, if_true]
    rw [hall, push_ref 0 _ st st (by omega) (fun _ => rfl) hm]
    rfl
  have hP : stepP cols o n s st = if (st.length : Int) < arP o then (6, st) else if (madeP o (st.drop ((st.length : Int) - arP o).toNat)).2 = true then pushS (madeP o (st.drop ((st.length : Int) - arP o).toNat)).1 (st.take ((st.length : Int) - arP o).toNat) else (80, st) := by
    unfold stepP
    rw [if_neg o0, if_neg o2, if_neg o1, if_neg (by omega), if_neg (by omega)]
  rw [hP]
  by_cases hl : (st.length : Int) < arP o
  · rw [if_pos (by omega), if_pos hl]
  rw [if_neg (by omega), if_neg hl]
  have h1 : 1 ≤ arP o := by
    unfold arP
    rw [if_neg (by omega)]
    repeat' split
    all_goals omega
  have hd : ((st.drop ((st.length : Int) - arP o).toNat).length : Int) = arP o := by rw [List.length_drop]; omega
  have hK : refK k cols o n (st.drop ((st.length : Int) - arP o).toNat) = some (if (madeP o (st.drop ((st.length : Int) - arP o).toNat)).2 = true then (0, (madeP o (st.drop ((st.length : Int) - arP o).toNat)).1) else (80, 0)) := by
    unfold refK
    rw [if_neg o0, if_neg o2, if_pos (by omega), fits_is k (by omega) o _ hd ⟨o0, o1, o2⟩, kind_is k (by omega) o _ hd ⟨o0, o1, o2⟩]
    simp only [Option.bind_some]
    split <;> rfl
  rw [hK]
  simp only [Option.bind_some]
  have hlen : ((st.take ((st.length : Int) - arP o).toNat).length : Int) = (st.length : Int) - arP o := by rw [List.length_take]; omega
  cases hmd : (madeP o (st.drop ((st.length : Int) - arP o).toNat)).2 with
  | false => rfl
  | true =>
    simp only [if_true]
    exact push_ref _ _ st _ hlen (fun h => by omega) (by omega)
theorem both (x0 : List S49) (cols : List Int) (d : Nat) : ∀ (k : Nat) (i : Int) (st : List Int), (x0.length : Int) - i ≤ d → d + 60 < k → st.length ≤ 16 →
    ∃ r, expr_Type.l0 k x0 cols st i = some r ∧ runnelref08_Type.l0 k x0 cols st i = some r := by
  induction d with
  | zero =>
    intro k i st hd hk hm
    obtain ⟨k, rfl⟩ : ∃ m, k = m + 1 := ⟨k - 1, by omega⟩
    simp only [expr_Type.l0, runnelref08_Type.l0]
    have hge : ¬ i < (x0.length : Int) := by omega
    rw [if_neg hge, if_neg hge]
    split <;> exact ⟨_, rfl, rfl⟩
  | succ d ih =>
    intro k i st hd hk hm
    obtain ⟨k, rfl⟩ : ∃ m, k = m + 1 := ⟨k - 1, by omega⟩
    simp only [expr_Type.l0, runnelref08_Type.l0]
    by_cases hlt : i < (x0.length : Int)
    · rw [if_pos hlt, if_pos hlt, step_is (by omega), refS_is (by omega) _ _ _ _ _ hm]
      simp only [Option.bind_some]
      by_cases e : (stepP cols (rd_T49 x0 i).f0 (rd_T49 x0 i).f1 (rd_T49 x0 i).f2 st).1 = 0
      · rw [if_pos e, if_pos e]
        exact ih k (i + 1) _ (by omega) (by omega) (stepS_le (step_is (k := 2) (by omega) _ _ _ _ _) hm)
      · rw [if_neg e, if_neg e]
        exact ⟨_, rfl, rfl⟩
    · rw [if_neg hlt, if_neg hlt]
      split <;> exact ⟨_, rfl, rfl⟩
theorem types_both (x0 : List S49) (cols : List Int) {k : Nat} (hk : 400 ≤ k) : ∃ r, expr_Type.f k x0 cols = some r ∧ runnelref08_Type.f k x0 cols = some r := by
  unfold expr_Type.f runnelref08_Type.f
  by_cases z : (x0.length : Int) = 0
  · rw [if_pos z, if_pos z]; exact ⟨_, rfl, rfl⟩
  rw [if_neg z, if_neg z]
  by_cases y : (x0.length : Int) > 64
  · rw [if_pos y, if_pos y]; exact ⟨_, rfl, rfl⟩
  rw [if_neg y, if_neg y]
  exact both x0 cols x0.length k 0 [] (by omega) (by omega) (by simp)
theorem long_from (x0 : List S49) (hn : (x0.length : Int) ≤ 1000) (d : Nat) : ∀ (k : Nat) (i : Int), 0 ≤ i → i ≤ x0.length → (x0.length : Int) - i = d → d < k → ∃ b, runnelref08_Long.l0 k x0 i = some b := by
  induction d with
  | zero =>
    intro k i h0 h1 hd hk
    obtain ⟨k, rfl⟩ : ∃ m, k = m + 1 := ⟨k - 1, by omega⟩
    have hge : ¬ i < (x0.length : Int) := by omega
    simp only [runnelref08_Long.l0]
    rw [if_neg hge]; exact ⟨_, rfl⟩
  | succ d ih =>
    intro k i h0 h1 hd hk
    obtain ⟨k, rfl⟩ : ∃ m, k = m + 1 := ⟨k - 1, by omega⟩
    have hlt : i < (x0.length : Int) := by omega
    simp only [runnelref08_Long.l0]
    rw [if_pos hlt, if_pos h0, w64 (x := i + 1) (by omega)]
    split
    · exact ⟨_, rfl⟩
    · exact ih k (i + 1) (by omega) (by omega) (by omega) (by omega)
theorem long_some (x0 : List S49) {k : Nat} (hk : 400 ≤ k) : ∃ b, runnelref08_Long.f k x0 = some b := by
  unfold runnelref08_Long.f
  by_cases z : (x0.length : Int) > 80
  · rw [if_pos z]; exact ⟨_, rfl⟩
  rw [if_neg z]
  exact long_from x0 (by omega) x0.length k 0 (by omega) (by omega) (by omega) (by omega)
theorem ExprTypes : runnellaw08_ExprTypes.Pure := by
  intro l0 l1 _ _
  refine ⟨501, ?_⟩
  unfold runnellaw08_ExprTypes.f
  obtain ⟨b, hb⟩ := long_some l0 (k := 501) (by omega)
  obtain ⟨r, h1, h2⟩ := types_both l0 l1 (k := 500) (by omega)
  have hl := live_is (k := 500) (by omega)
  have u : ∀ b, runnellaw08_ExprTypes.j0 501 l0 l1 b = some true := by
    intro b
    rw [show (501 : Nat) = 500 + 1 from rfl]
    generalize (500 : Nat) = k at *
    simp only [runnellaw08_ExprTypes.j0, hl, h1, h2, Option.bind_some, runnellaw08_code.f, if_true]
    split <;> rfl
  rw [hb]
  simp only [Option.bind_some, u]
  split <;> rfl

end Go.Proofs.Ytfbbpbfkkcjmjaa.Pure
