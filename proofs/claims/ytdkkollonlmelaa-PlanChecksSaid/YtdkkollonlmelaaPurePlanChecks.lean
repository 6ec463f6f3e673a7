/- Of any plan the first fault and its node, or order and kinds, are as the document's evaluation tells. No condition beyond the statement's own. -/
import Derived.Test.YtdkkollonlmelaaQPlanChecksx18
namespace Go.Proofs.Ytdkkollonlmelaa.Pure
open Go.RowKit Go.Proofs.Ytdkkollonlmelaa.QPlanChecks Go.Proofs.YtdkkollonlmelaaW.PrintWords Go.Proofs.YtdkkollonlmelaaW.PrintLast

theorem w64 {x : Int} (h : -9223372036854775808 ≤ x ∧ x ≤ 9223372036854775807) : wrap64 x = x := by unfold wrap64; omega
/-- Never as a hypothesis: omega runs away over two of them. -/
theorem wnext (i : Nat) (h : i ≤ 1000000) : wrap64 ((i : Int) + 1) = ((i + 1 : Nat) : Int) := by rw [w64 (by omega)]; rfl
theorem xlong_loop (l : List S128) (hl : (l.length : Int) ≤ 1000) (d : Nat) : ∀ (i : Nat), i ≤ l.length → l.length - i = d → ∃ b, Ev (fun k => runnelref08_Long.l0 k l (i : Int)) b := by
  induction d with
  | zero =>
    intro i hi hd
    exact ⟨false, Ev.step (fun k => by rw [runnelref08_Long.l0, if_neg (by omega)]) (Ev.now _)⟩
  | succ d ih =>
    intro i hi hd
    by_cases h : ((rd_T128 l (i : Int)).f2.size : Int) > 5000
    · exact ⟨true, Ev.step (fun k => by rw [runnelref08_Long.l0, if_pos (by omega), if_pos (by omega), if_pos h]) (Ev.now _)⟩
    · obtain ⟨b, hb⟩ := ih (i + 1) (by omega) (by omega)
      exact ⟨b, Ev.step (fun k => by rw [runnelref08_Long.l0, if_pos (by omega), if_pos (by omega), if_neg h, wnext i (by omega)]) hb⟩
theorem xlong_is (l : List S128) : (Ev (fun k => runnelref08_Long.f k l) true) ∨ ((l.length : Int) ≤ 80 ∧ Ev (fun k => runnelref08_Long.f k l) false) := by
  unfold runnelref08_Long.f
  by_cases h : (l.length : Int) > 80
  · exact .inl (Ev.congr (fun k => if_pos h) (Ev.now _))
  · obtain ⟨b, hb⟩ := xlong_loop l (by omega) l.length 0 (by omega) (by omega)
    cases b with
    | true => exact .inl (Ev.congr (fun k => if_neg h) hb)
    | false => exact .inr ⟨by omega, Ev.congr (fun k => if_neg h) hb⟩
/-- What Long lets in, of one node. -/
structure NodeOk (x : S42) : Prop where
  ins : x.f1.length ≤ 20
  kinds : x.f2.length ≤ 30
  exprs : x.f3.length ≤ 30
  cols : x.f4.length ≤ 30
  each : ∀ q : Nat, q < x.f3.length → ((rd_L4 x.f3 (q : Int)).length : Int) ≤ 80
theorem plong_exprs (f3 : List (List S128)) (h3 : f3.length ≤ 30) (d : Nat) : ∀ (p : Nat), p ≤ f3.length → f3.length - p = d →
    Ev (fun k => runnelref16_Long.l1 k f3 (p : Int)) true ∨ ((∀ q : Nat, p ≤ q → q < f3.length → ((rd_L4 f3 (q : Int)).length : Int) ≤ 80) ∧ Ev (fun k => runnelref16_Long.l1 k f3 (p : Int)) false) := by
  induction d with
  | zero =>
    intro p hp hd
    exact .inr ⟨fun q h1 h2 => by omega, Ev.step (fun k => by rw [runnelref16_Long.l1, if_neg (by omega)]) (Ev.now _)⟩
  | succ d ih =>
    intro p hp hd
    have st : ∀ k, runnelref16_Long.l1 (k + 1) f3 (p : Int) = (runnelref08_Long.f k (rd_L4 f3 (p : Int))).bind fun t => if t = true then some true else runnelref16_Long.l1 k f3 ((p + 1 : Nat) : Int) := fun k => by rw [runnelref16_Long.l1, if_pos (by omega), if_pos (by omega), wnext p (by omega)]
    rcases xlong_is (rd_L4 f3 (p : Int)) with h | ⟨hle, h⟩
    · exact .inl (Ev.step st (Ev.bind h (Ev.congr (fun k => if_pos rfl) (Ev.now _))))
    · rcases ih (p + 1) (by omega) (by omega) with h2 | ⟨h2, h2'⟩
      · exact .inl (Ev.step st (Ev.bind h (Ev.congr (fun k => if_neg (by decide)) h2)))
      · refine .inr ⟨fun q h3 h4 => ?_, Ev.step st (Ev.bind h (Ev.congr (fun k => if_neg (by decide)) h2'))⟩
        rcases Nat.eq_or_lt_of_le h3 with rfl | h5
        · exact hle
        · exact h2 q h5 h4
theorem plong_loop (nodes : List S42) (hn : nodes.length ≤ 70) (d : Nat) : ∀ (i : Nat), i ≤ nodes.length → nodes.length - i = d →
    Ev (fun k => runnelref16_Long.l0 k nodes (i : Int)) true ∨ ((∀ j : Nat, i ≤ j → j < nodes.length → NodeOk (rd_T42 nodes (j : Int))) ∧ Ev (fun k => runnelref16_Long.l0 k nodes (i : Int)) false) := by
  induction d with
  | zero =>
    intro i hi hd
    exact .inr ⟨fun j h1 h2 => by omega, Ev.step (fun k => by rw [runnelref16_Long.l0, if_neg (by omega)]) (Ev.now _)⟩
  | succ d ih =>
    intro i hi hd
    by_cases h1 : ((rd_T42 nodes (i : Int)).f1.length : Int) > 20
    · exact .inl (Ev.step (fun k => by rw [runnelref16_Long.l0, if_pos (by omega), if_pos (by omega), if_pos h1]) (Ev.now _))
    by_cases h2 : ((rd_T42 nodes (i : Int)).f2.length : Int) > 30
    · exact .inl (Ev.step (fun k => by rw [runnelref16_Long.l0, if_pos (by omega), if_pos (by omega), if_neg h1, if_pos h2]) (Ev.now _))
    by_cases h3 : ((rd_T42 nodes (i : Int)).f3.length : Int) > 30
    · exact .inl (Ev.step (fun k => by rw [runnelref16_Long.l0, if_pos (by omega), if_pos (by omega), if_neg h1, if_neg h2, if_pos h3]) (Ev.now _))
    by_cases h4 : ((rd_T42 nodes (i : Int)).f4.length : Int) > 30
    · exact .inl (Ev.step (fun k => by rw [runnelref16_Long.l0, if_pos (by omega), if_pos (by omega), if_neg h1, if_neg h2, if_neg h3, if_pos h4]) (Ev.now _))
    have st : ∀ k, runnelref16_Long.l0 (k + 1) nodes (i : Int) = (runnelref16_Long.l1 k (rd_T42 nodes (i : Int)).f3 ((0 : Nat) : Int)).bind fun t => if t = true then some true else runnelref16_Long.l0 k nodes ((i + 1 : Nat) : Int) := fun k => by
      rw [runnelref16_Long.l0, if_pos (by omega), if_pos (by omega), if_neg h1, if_neg h2, if_neg h3, if_neg h4, wnext i (by omega)]; rfl
    rcases plong_exprs (rd_T42 nodes (i : Int)).f3 (by omega) _ 0 (by omega) rfl with h5 | ⟨h5, h5'⟩
    · exact .inl (Ev.step st (Ev.bind h5 (Ev.congr (fun k => if_pos rfl) (Ev.now _))))
    · rcases ih (i + 1) (by omega) (by omega) with h6 | ⟨h6, h6'⟩
      · exact .inl (Ev.step st (Ev.bind h5' (Ev.congr (fun k => if_neg (by decide)) h6)))
      · refine .inr ⟨fun j h7 h8 => ?_, Ev.step st (Ev.bind h5' (Ev.congr (fun k => if_neg (by decide)) h6'))⟩
        rcases Nat.eq_or_lt_of_le h7 with rfl | h9
        · exact ⟨by omega, by omega, by omega, by omega, fun q hq => h5 q (by omega) hq⟩
        · exact h6 j h9 h8
theorem plong_is (nodes : List S42) (outs : List Int) (room : Int) : Ev (fun k => runnelref16_Long.f k nodes outs room) true ∨ (nodes.length ≤ 70 ∧ outs.length ≤ 20 ∧ (∀ j : Nat, j < nodes.length → NodeOk (rd_T42 nodes (j : Int))) ∧ Ev (fun k => runnelref16_Long.f k nodes outs room) false) := by
  unfold runnelref16_Long.f
  by_cases h1 : (nodes.length : Int) > 70
  · exact .inl (Ev.congr (fun k => if_pos h1) (Ev.now _))
  by_cases h2 : (outs.length : Int) > 20
  · exact .inl (Ev.congr (fun k => (if_neg h1).trans (if_pos h2)) (Ev.now _))
  rcases plong_loop nodes (by omega) _ 0 (by omega) rfl with h | ⟨h, h'⟩
  · exact .inl (Ev.congr (fun k => (if_neg h1).trans (if_neg h2)) h)
  · exact .inr ⟨by omega, by omega, fun j hj => h j (by omega) hj, Ev.congr (fun k => (if_neg h1).trans (if_neg h2)) h'⟩
theorem live_is : Ev (fun k => runnellaw16_live.f k) true := by
  have h : runnellaw16_live.f 60 = some true := by decide +kernel
  exact Ev.of (fun k => runnellaw16_live.mono k) h
theorem same_loop (l : List Int) (hl : l.length ≤ 10000) (d : Nat) : ∀ (i : Nat), i ≤ l.length → l.length - i = d → Ev (fun k => runnelref16_same.l0 k l l (i : Int)) true := by
  induction d with
  | zero =>
    intro i hi hd
    exact Ev.step (fun k => by rw [runnelref16_same.l0, if_neg (by omega)]) (Ev.now _)
  | succ d ih =>
    intro i hi hd
    exact Ev.step (fun k => by rw [runnelref16_same.l0, if_pos (by omega), if_pos (by omega), if_pos (by omega), if_pos rfl, wnext i (by omega)]) (ih (i + 1) (by omega) (by omega))
theorem same_is (l : List Int) (hl : l.length ≤ 10000) : Ev (fun k => runnelref16_Same.f k l l) true := by
  unfold runnelref16_Same.f runnelref16_same.f
  exact Ev.bind (Ev.congr (fun k => if_pos rfl) (same_loop l hl l.length 0 (by omega) (by omega))) (Ev.now _)
/-- How many values a step takes. -/
def arP (o : Int) : Int := if o = 0 ∨ o = 1 ∨ o = 2 then 0 else if o = 8 ∨ o = 11 ∨ o = 15 then 1 else if o = 14 then 3 else 2
/-- The kind of what a step makes of others, and whether it takes such. -/
def madeP (o : Int) (l : List Int) : Int × Bool :=
  if o = 9 ∨ o = 10 then (0, rd l 0 == rd l 1) else if o = 17 ∨ o = 18 then (rd l 0, rd l 0 == rd l 1)
  else if o = 14 then (if rd l 0 = 0 then (rd l 1, rd l 1 == rd l 2) else (rd l 1, false))
  else if o = 15 then (0, l.all (fun k => k == 1)) else if o = 16 then (1, l.all (fun k => k == 1)) else (0, l.all (fun k => k == 0))
theorem arity_is (k : Nat) (o : Int) : expr_arity.f (k + 2) o = some (arP o) := by
  unfold expr_arity.f arP
  by_cases h0 : o = 0
  · subst h0; simp [expr_arity.j0]
  by_cases h1 : o = 1
  · subst h1; simp [expr_arity.j0]
  by_cases h2 : o = 2
  · subst h2; simp [expr_arity.j0]
  by_cases h8 : o = 8
  · subst h8; simp [expr_arity.j0, expr_arity.j1]
  by_cases h11 : o = 11
  · subst h11; simp [expr_arity.j0, expr_arity.j1]
  by_cases h15 : o = 15
  · subst h15; simp [expr_arity.j0, expr_arity.j1]
  by_cases h14 : o = 14
  · subst h14; simp [expr_arity.j0, expr_arity.j1]
  simp [expr_arity.j0, expr_arity.j1, h0, h1, h2, h8, h11, h14, h15]
theorem made_is (k : Nat) (o : Int) (l : List Int) (h : (l.length : Int) = arP o) : expr_made.f (k + 2) o l = some (madeP o l) := by
  unfold expr_made.f madeP
  by_cases h9 : o = 9
  · subst h9
    have hl : (l.length : Int) = 2 := h
    simp [expr_made.j0, hl]
  by_cases h10 : o = 10
  · subst h10
    have hl : (l.length : Int) = 2 := h
    simp [expr_made.j0, hl]
  by_cases h17 : o = 17
  · subst h17
    have hl : (l.length : Int) = 2 := h
    simp [expr_made.j0, expr_made.j1, hl]
  by_cases h18 : o = 18
  · subst h18
    have hl : (l.length : Int) = 2 := h
    simp [expr_made.j0, expr_made.j1, hl]
  by_cases h14 : o = 14
  · subst h14
    have hl : (l.length : Int) = 3 := h
    simp [expr_made.j0, expr_made.j1, hl]
    split <;> rfl
  by_cases h15 : o = 15
  · subst h15; simp [expr_made.j0, expr_made.j1, expr_all.f]
  by_cases h16 : o = 16
  · subst h16; simp [expr_made.j0, expr_made.j1, expr_all.f]
  simp [expr_made.j0, expr_made.j1, expr_all.f, h9, h10, h17, h18, h14, h15, h16]
/-- A step of the kinds: its error, and the stack. -/
def stepP (cols : List Int) (o n : Int) (s : ByteArray) (st : List Int) : Int × List Int :=
  if o = 0 then (if n < 0 then (9, st) else if n ≥ (cols.length : Int) then (9, st) else pushS (rd cols n) st)
  else if o = 2 then (if (s.size : Int) > 4096 then (2, st) else pushS 1 st)
  else if o = 1 then pushS 0 st
  else if o < 0 then (8, st) else if o ≥ 19 then (8, st)
  else if (st.length : Int) < arP o then (6, st) else if (madeP o (st.drop ((st.length : Int) - arP o).toNat)).2 = true then pushS (madeP o (st.drop ((st.length : Int) - arP o).toNat)).1 (st.take ((st.length : Int) - arP o).toNat) else (80, st)
theorem arP_nonneg (o : Int) : 0 ≤ arP o ∧ arP o ≤ 3 := by
  unfold arP
  repeat' split
  all_goals omega
theorem step_is' (k : Nat) (cols : List Int) (o n : Int) (s : ByteArray) (st : List Int) : stepS (k + 2) cols o n s st = some (stepP cols o n s st) := by
  unfold stepS stepP
  have ha := arP_nonneg o
  by_cases o0 : o = 0
  · rw [if_pos o0, if_pos o0]; repeat' split
    all_goals rfl
  rw [if_neg o0, if_neg o0]
  by_cases o2 : o = 2
  · rw [if_pos o2, if_pos o2]; repeat' split
    all_goals rfl
  rw [if_neg o2, if_neg o2]
  by_cases o1 : o = 1
  · rw [if_pos o1, if_pos o1]
  rw [if_neg o1, if_neg o1]
  by_cases ol : o < 0
  · rw [if_pos ol, if_pos ol]
  rw [if_neg ol, if_neg ol]
  by_cases oh : o ≥ 19
  · rw [if_pos oh, if_pos oh]
  rw [if_neg oh, if_neg oh, arity_is]
  simp only [Option.bind_some]
  rw [if_neg (by omega)]
  by_cases hl : (st.length : Int) < arP o
  · rw [if_pos hl, if_pos hl]
  rw [if_neg hl, if_neg hl, made_is k o _ (by rw [List.length_drop]; omega)]
  simp only [Option.bind_some]
  split <;> rfl
theorem step_is {k : Nat} (hk : 2 ≤ k) (cols : List Int) (o n : Int) (s : ByteArray) (st : List Int) : stepS k cols o n s st = some (stepP cols o n s st) := by
  obtain ⟨k, rfl⟩ : ∃ m, k = m + 2 := ⟨k - 2, by omega⟩
  exact step_is' k cols o n s st
theorem takes_is (k : Nat) (o : Int) : runnelref08_takes.f (k + 2) o = some (arP o) := by
  unfold runnelref08_takes.f arP
  by_cases h0 : o = 0
  · subst h0; simp [runnelref08_takes.j0]
  by_cases h1 : o = 1
  · subst h1; simp [runnelref08_takes.j0]
  by_cases h2 : o = 2
  · subst h2; simp [runnelref08_takes.j0]
  by_cases h8 : o = 8
  · subst h8; simp [runnelref08_takes.j0, runnelref08_takes.j1]
  by_cases h11 : o = 11
  · subst h11; simp [runnelref08_takes.j0, runnelref08_takes.j1]
  by_cases h15 : o = 15
  · subst h15; simp [runnelref08_takes.j0, runnelref08_takes.j1]
  by_cases h14 : o = 14
  · subst h14; simp [runnelref08_takes.j0, runnelref08_takes.j1]
  simp [runnelref08_takes.j0, runnelref08_takes.j1, h0, h1, h2, h8, h11, h14, h15]
theorem drop_rd {l : List Int} {i : Int} (h0 : 0 ≤ i) (h1 : i < (l.length : Int)) : l.drop i.toNat = rd l i :: l.drop (i + 1).toNat := by
  obtain ⟨n, rfl⟩ := Int.eq_ofNat_of_zero_le h0
  have hn : n < l.length := by omega
  rw [Int.toNat_natCast, show ((n : Int) + 1).toNat = n + 1 from by omega, List.drop_eq_getElem_cons hn]
  congr 1
  unfold rd
  rw [Int.toNat_natCast, List.getD_eq_getElem?_getD, List.getElem?_eq_getElem hn, Option.getD_some]
theorem kinds_from (l : List Int) (want got : Int) (hn : (l.length : Int) ≤ 1000) (d : Nat) : ∀ (k : Nat) (i : Int), 0 ≤ i → i ≤ l.length → (l.length : Int) - i = d → d < k →
    runnelref08_kind.l0 k l want got i = some (if (l.drop i.toNat).all (fun k => k == want) = true then got else -1) := by
  induction d with
  | zero =>
    intro k i h0 h1 hd hk
    obtain ⟨k, rfl⟩ : ∃ m, k = m + 1 := ⟨k - 1, by omega⟩
    have e : l.drop i.toNat = [] := List.drop_eq_nil_of_le (by omega)
    simp only [runnelref08_kind.l0, e, List.all_nil, if_true]; rw [if_neg (by omega)]
  | succ d ih =>
    intro k i h0 h1 hd hk
    obtain ⟨k, rfl⟩ : ∃ m, k = m + 1 := ⟨k - 1, by omega⟩
    have hlt : i < (l.length : Int) := by omega
    simp only [runnelref08_kind.l0]; rw [if_pos hlt, if_pos h0, drop_rd h0 hlt, w64 (x := i + 1) (by omega)]
    by_cases e : rd l i = want
    · rw [if_pos e, ih k (i + 1) (by omega) (by omega) (by omega) (by omega), List.all_cons, e]; simp
    · rw [if_neg e, List.all_cons, beq_eq_false_iff_ne.mpr e]; simp
theorem kind_is (k : Nat) (hk : 20 ≤ k) (o : Int) (l : List Int) (h : (l.length : Int) = arP o) (ho : o ≠ 0 ∧ o ≠ 1 ∧ o ≠ 2) : runnelref08_kind.f k o l = some (if (madeP o l).2 = true then (madeP o l).1 else -1) := by
  obtain ⟨k, rfl⟩ : ∃ m, k = m + 15 := ⟨k - 15, by omega⟩
  have ha := arP_nonneg o
  have hk2 : ∀ want got, runnelref08_kind.l0 (k + 10) l want got 0 = some (if l.all (fun k => k == want) = true then got else -1) := fun want got => by
    have := kinds_from l want got (by omega) l.length (k + 10) 0 (by omega) (by omega) (by omega) (by omega)
    rw [this]; rfl
  unfold runnelref08_kind.f madeP
  by_cases h9 : o = 9
  · subst h9
    have hl : (l.length : Int) = 2 := h
    simp [runnelref08_kind.j0, hl]
    split <;> rfl
  by_cases h10 : o = 10
  · subst h10
    have hl : (l.length : Int) = 2 := h
    simp [runnelref08_kind.j0, hl]
    split <;> rfl
  by_cases h17 : o = 17
  · subst h17
    have hl : (l.length : Int) = 2 := h
    simp [runnelref08_kind.j0, runnelref08_kind.j1, hl]
    split <;> rfl
  by_cases h18 : o = 18
  · subst h18
    have hl : (l.length : Int) = 2 := h
    simp [runnelref08_kind.j0, runnelref08_kind.j1, hl]
    split <;> rfl
  by_cases h14 : o = 14
  · subst h14
    have hl : (l.length : Int) = 3 := h
    simp [runnelref08_kind.j0, runnelref08_kind.j1, hl]
    split
    · simp; split <;> rfl
    · simp
  by_cases h15 : o = 15
  · subst h15; simp [runnelref08_kind.j0, runnelref08_kind.j1, runnelref08_kind.j2, runnelref08_kind.j3, runnelref08_kind.j4, hk2]
  by_cases h16 : o = 16
  · subst h16; simp [runnelref08_kind.j0, runnelref08_kind.j1, runnelref08_kind.j2, runnelref08_kind.j3, runnelref08_kind.j4, hk2]
  simp [runnelref08_kind.j0, runnelref08_kind.j1, runnelref08_kind.j2, runnelref08_kind.j3, runnelref08_kind.j4, hk2, h9, h10, h17, h18, h14, h15, h16]
theorem fits_is (k : Nat) (hk : 30 ≤ k) (o : Int) (l : List Int) (h : (l.length : Int) = arP o) (ho : o ≠ 0 ∧ o ≠ 1 ∧ o ≠ 2) : runnelref08_fits.f k o l = some (madeP o l).2 := by
  obtain ⟨k, rfl⟩ : ∃ m, k = m + 1 := ⟨k - 1, by omega⟩
  have hkd := kind_is k (by omega) o l h ho
  unfold runnelref08_fits.f
  by_cases h9 : o = 9
  · subst h9
    have hl : (l.length : Int) = 2 := h
    simp [runnelref08_fits.j0, hl, madeP]
  by_cases h10 : o = 10
  · subst h10
    have hl : (l.length : Int) = 2 := h
    simp [runnelref08_fits.j0, hl, madeP]
  by_cases h17 : o = 17
  · subst h17
    have hl : (l.length : Int) = 2 := h
    simp [runnelref08_fits.j0, hl, madeP]
  by_cases h18 : o = 18
  · subst h18
    have hl : (l.length : Int) = 2 := h
    simp [runnelref08_fits.j0, hl, madeP]
  by_cases h14 : o = 14
  · subst h14
    have hl : (l.length : Int) = 3 := h
    simp [runnelref08_fits.j0, hl, madeP]
    split <;> simp
  simp only [runnelref08_fits.j0, h9, h10, h17, h14, if_false, hkd, Option.bind_some]
  have hp : (madeP o l).1 = 0 ∨ (madeP o l).1 = 1 := by
    unfold madeP
    simp [h9, h10, h17, h18, h14]
    split
    · simp
    · split <;> simp
  cases hm : (madeP o l).2 <;> simp [beq_eq_false_iff_ne.mpr h18] <;> omega
theorem push_ref (kd m : Int) (st : List Int) (ys : List Int) (hy : (ys.length : Int) = m) (hs : ys.length = 16 → ys = st) (hm : ys.length ≤ 16) :
    (if m ≥ 16 then some ((3 : Int), st) else some (0, ys ++ [kd])) = some (pushS kd ys) := by
  unfold pushS
  by_cases e : ys.length = 16
  · rw [if_pos (by omega), if_pos e, hs e]
  · rw [if_neg (by omega), if_neg e]
theorem refS_is {k : Nat} (hk : 40 ≤ k) (cols : List Int) (o n : Int) (s : ByteArray) (st : List Int) (hm : st.length ≤ 16) : refS k cols o n s st = some (stepP cols o n s st) := by
  have ha := arP_nonneg o
  have ht : runnelref08_takes.f k o = some (arP o) := by
    obtain ⟨k', rfl⟩ : ∃ m, k = m + 2 := ⟨k - 2, by omega⟩
    exact takes_is k' o
  unfold refS
  by_cases c8 : o < 0 ∨ o > 18
  · have hE : refE o n cols.length s = 8 := if_pos c8
    rw [hE, if_neg (by decide)]
    unfold stepP
    rw [if_neg (by omega), if_neg (by omega), if_neg (by omega)]
    split
    · rfl
    · rw [if_pos (by omega)]
  by_cases c9 : o = 0 ∧ (n < 0 ∨ n ≥ (cols.length : Int))
  · have hE : refE o n cols.length s = 9 := (if_neg c8).trans (if_pos c9)
    rw [hE, if_neg (by decide)]
    unfold stepP
    rw [if_pos c9.1]
    split
    · rfl
    · rw [if_pos (by omega)]
  by_cases c2 : o = 2 ∧ (s.size : Int) > 4096
  · have hE : refE o n cols.length s = 2 := (if_neg c8).trans ((if_neg c9).trans (if_pos c2))
    rw [hE, if_neg (by decide)]
    unfold stepP
    rw [if_neg (by omega), if_pos c2.1, if_pos c2.2]
  have hE : refE o n cols.length s = 0 := (if_neg c8).trans ((if_neg c9).trans (if_neg c2))
  rw [if_pos hE, ht]
  simp only [Option.bind_some]
  rw [if_pos ⟨ha.1, ha.2, hm⟩]
  have hall : st.take ((st.length : Int) - 0).toNat = st := List.take_of_length_le (by omega)
  by_cases o0 : o = 0
  · subst o0
    have hb : arP 0 = 0 := rfl
    have hK : ∀ l, refK k cols 0 n l = some (0, rd cols n) := fun l => rfl
    rw [hb, if_neg (by omega), hK]
    simp only [Option.bind_some, if_true]
    rw [hall, push_ref (rd cols n) _ st st (by omega) (fun _ => rfl) hm]
    unfold stepP
    rw [if_pos rfl, if_neg (by omega), if_neg (by omega)]
  by_cases o2 : o = 2
  · subst o2
    have hb : arP 2 = 0 := rfl
    have hK : ∀ l, refK k cols 2 n l = some (0, 1) := fun l => rfl
    rw [hb, if_neg (by omega), hK]
    simp only [Option.bind_some, if_true]
    rw [hall, push_ref 1 _ st st (by omega) (fun _ => rfl) hm]
    unfold stepP
    rw [if_neg o0, if_pos rfl, if_neg (by omega)]
  by_cases o1 : o = 1
  · subst o1
    have hb : arP 1 = 0 := rfl
    have hK : ∀ l, refK k cols 1 n l = some (0, 0) := fun l => rfl
    rw [hb, if_neg (by omega), hK]
    simp only [Option.bind_some, if_true]
    rw [hall, push_ref 0 _ st st (by omega) (fun _ => rfl) hm]
    rfl
  have hP : stepP cols o n s st = if (st.length : Int) < arP o then (6, st) else if (madeP o (st.drop ((st.length : Int) - arP o).toNat)).2 = true then pushS (madeP o (st.drop ((st.length : Int) - arP o).toNat)).1 (st.take ((st.length : Int) - arP o).toNat) else (80, st) := by
    unfold stepP
    rw [if_neg o0, if_neg o2, if_neg o1, if_neg (by omega), if_neg (by omega)]
  rw [hP]
  by_cases hl : (st.length : Int) < arP o
  · rw [if_pos (by omega), if_pos hl]
  rw [if_neg (by omega), if_neg hl]
  have h1 : 1 ≤ arP o := by
    unfold arP
    rw [if_neg (by omega)]
    repeat' split
    all_goals omega
  have hd : ((st.drop ((st.length : Int) - arP o).toNat).length : Int) = arP o := by rw [List.length_drop]; omega
  have hK : refK k cols o n (st.drop ((st.length : Int) - arP o).toNat) = some (if (madeP o (st.drop ((st.length : Int) - arP o).toNat)).2 = true then (0, (madeP o (st.drop ((st.length : Int) - arP o).toNat)).1) else (80, 0)) := by
    unfold refK
    rw [if_neg o0, if_neg o2, if_pos (by omega), fits_is k (by omega) o _ hd ⟨o0, o1, o2⟩, kind_is k (by omega) o _ hd ⟨o0, o1, o2⟩]
    simp only [Option.bind_some]
    split <;> rfl
  rw [hK]
  simp only [Option.bind_some]
  have hlen : ((st.take ((st.length : Int) - arP o).toNat).length : Int) = (st.length : Int) - arP o := by rw [List.length_take]; omega
  cases hmd : (madeP o (st.drop ((st.length : Int) - arP o).toNat)).2 with
  | false => rfl
  | true =>
    simp only [if_true]
    exact push_ref _ _ st _ hlen (fun h => by omega) (by omega)
theorem both (x0 : List S128) (cols : List Int) (d : Nat) : ∀ (k : Nat) (i : Int) (st : List Int), (x0.length : Int) - i ≤ d → d + 60 < k → st.length ≤ 16 →
    ∃ r, expr_Type.l0 k x0 cols st i = some r ∧ runnelref08_Type.l0 k x0 cols st i = some r := by
  induction d with
  | zero =>
    intro k i st hd hk hm
    obtain ⟨k, rfl⟩ : ∃ m, k = m + 1 := ⟨k - 1, by omega⟩
    simp only [expr_Type.l0, runnelref08_Type.l0]
    have hge : ¬ i < (x0.length : Int) := by omega
    rw [if_neg hge, if_neg hge]
    split <;> exact ⟨_, rfl, rfl⟩
  | succ d ih =>
    intro k i st hd hk hm
    obtain ⟨k, rfl⟩ : ∃ m, k = m + 1 := ⟨k - 1, by omega⟩
    simp only [expr_Type.l0, runnelref08_Type.l0]
    by_cases hlt : i < (x0.length : Int)
    · rw [if_pos hlt, if_pos hlt, step_is (by omega), refS_is (by omega) _ _ _ _ _ hm]
      simp only [Option.bind_some]
      by_cases e : (stepP cols (rd_T128 x0 i).f0 (rd_T128 x0 i).f1 (rd_T128 x0 i).f2 st).1 = 0
      · rw [if_pos e, if_pos e]
        exact ih k (i + 1) _ (by omega) (by omega) (stepS_le (step_is (k := 2) (by omega) _ _ _ _ _) hm)
      · rw [if_neg e, if_neg e]
        exact ⟨_, rfl, rfl⟩
    · rw [if_neg hlt, if_neg hlt]
      split <;> exact ⟨_, rfl, rfl⟩
theorem types_both (x0 : List S128) (cols : List Int) {k : Nat} (hk : 400 ≤ k) : ∃ r, expr_Type.f k x0 cols = some r ∧ runnelref08_Type.f k x0 cols = some r := by
  unfold expr_Type.f runnelref08_Type.f
  by_cases z : (x0.length : Int) = 0
  · rw [if_pos z, if_pos z]; exact ⟨_, rfl, rfl⟩
  rw [if_neg z, if_neg z]
  by_cases y : (x0.length : Int) > 64
  · rw [if_pos y, if_pos y]; exact ⟨_, rfl, rfl⟩
  rw [if_neg y, if_neg y]
  exact both x0 cols x0.length k 0 [] (by omega) (by omega) (by simp)
theorem Ev_from {α : Type} {g : Nat → Option α} {r : α} (c : Nat) (h : ∀ k, g (k + c) = some r) : Ev g r := ⟨c, fun k hk => by
  obtain ⟨m, rfl⟩ : ∃ m, k = m + c := ⟨k - c, by omega⟩
  exact h m⟩
theorem type_step (ts : List S128) (cols ks : List Int) (i : Nat) (hi : i < ts.length) (k : Nat) : expr_Type.l0 (k + 3) ts cols ks (i : Int) = if (stepP cols (rd_T128 ts (i : Int)).f0 (rd_T128 ts (i : Int)).f1 (rd_T128 ts (i : Int)).f2 ks).1 = 0 then expr_Type.l0 (k + 2) ts cols (stepP cols (rd_T128 ts (i : Int)).f0 (rd_T128 ts (i : Int)).f1 (rd_T128 ts (i : Int)).f2 ks).2 ((i + 1 : Nat) : Int) else some (0, (stepP cols (rd_T128 ts (i : Int)).f0 (rd_T128 ts (i : Int)).f1 (rd_T128 ts (i : Int)).f2 ks).1, (i : Int)) := by
  rw [expr_Type.l0, if_pos (by omega), step_is (by omega), Option.bind_some]
  rfl
theorem type_end (ts : List S128) (cols ks : List Int) (k : Nat) : expr_Type.l0 (k + 1) ts cols ks (ts.length : Int) = if ks.length = 1 then some (rd ks 0, 0, (ts.length : Int)) else some (0, 6, (ts.length : Int)) := by
  rw [expr_Type.l0, if_neg (by omega)]
theorem stepP_code (cols : List Int) (o n : Int) (s : ByteArray) (st : List Int) : (stepP cols o n s st).1 ≤ 100 := by
  unfold stepP pushS
  repeat' split
  all_goals simp
theorem type_loop (ts : List S128) (cols : List Int) (d : Nat) : ∀ (ks : List Int) (i : Nat), i ≤ ts.length → ts.length - i = d → ∃ r, Ev (fun k => expr_Type.l0 k ts cols ks (i : Int)) r ∧ r.2.1 ≤ 100 := by
  induction d with
  | zero =>
    intro ks i hi hd
    have e : i = ts.length := by omega
    subst e
    by_cases h : ks.length = 1
    · exact ⟨_, Ev.step (fun k => by rw [type_end, if_pos h]) (Ev.now _), by simp⟩
    · exact ⟨_, Ev.step (fun k => by rw [type_end, if_neg h]) (Ev.now _), by simp⟩
  | succ d ih =>
    intro ks i hi hd
    have hi2 : i < ts.length := by omega
    by_cases h : (stepP cols (rd_T128 ts (i : Int)).f0 (rd_T128 ts (i : Int)).f1 (rd_T128 ts (i : Int)).f2 ks).1 = 0
    · obtain ⟨r, hr, hc⟩ := ih (stepP cols (rd_T128 ts (i : Int)).f0 (rd_T128 ts (i : Int)).f1 (rd_T128 ts (i : Int)).f2 ks).2 (i + 1) (by omega) (by omega)
      obtain ⟨K, hK⟩ := hr
      exact ⟨r, ⟨K + 3, fun k hk => by
        obtain ⟨m, rfl⟩ : ∃ m, k = m + 3 := ⟨k - 3, by omega⟩
        show expr_Type.l0 (m + 3) ts cols ks (i : Int) = some r
        rw [type_step ts cols ks i hi2 m, if_pos h]
        exact hK (m + 2) (by omega)⟩, hc⟩
    · exact ⟨_, Ev_from 3 (fun k => by rw [type_step ts cols ks i hi2 k, if_neg h]), stepP_code _ _ _ _ _⟩
theorem type_some (ts : List S128) (cols : List Int) : ∃ r, Ev (fun k => expr_Type.f k ts cols) r ∧ r.2.1 ≤ 100 := by
  unfold expr_Type.f
  by_cases h : (ts.length : Int) = 0
  · exact ⟨_, Ev.congr (fun k => if_pos h) (Ev.now _), by simp⟩
  by_cases h2 : (ts.length : Int) > 64
  · exact ⟨_, Ev.congr (fun k => (if_neg h).trans (if_pos h2)) (Ev.now _), by simp⟩
  obtain ⟨r, hr, hc⟩ := type_loop ts cols ts.length [] 0 (by omega) (by omega)
  exact ⟨r, Ev.congr (fun k => (if_neg h).trans (if_neg h2)) hr, hc⟩
/-- An expression's kind, and its error. -/
noncomputable def typeP (ts : List S128) (cols : List Int) : Int × Int × Int := Classical.choose (type_some ts cols)
theorem type_ev (ts : List S128) (cols : List Int) : Ev (fun k => expr_Type.f k ts cols) (typeP ts cols) := (Classical.choose_spec (type_some ts cols)).1
theorem type_code (ts : List S128) (cols : List Int) : (typeP ts cols).2.1 ≤ 100 := (Classical.choose_spec (type_some ts cols)).2
theorem rd_get {l : List Int} {i : Nat} (h : i < l.length) : rd l (i : Int) = l[i] := by
  unfold rd; rw [Int.toNat_natCast, List.getD_eq_getElem?_getD, List.getElem?_eq_getElem h]; rfl
/-- What an answer with an error says at a place: the kinds, the error, the place. -/
def atP (r : List Int × Int) (p : Int) : List Int × Int × Int := if r.2 = 0 then (r.1, 0, 0) else ([], r.2, p)
/-- What is shown of every answer: few kinds, and no error of a loop. -/
def Few (r : List Int × Int) : Prop := r.1.length ≤ 16 ∧ r.2 ≤ 100 ∧ (r.2 ≠ 0 → r.1 = [])
theorem few_bad (e : Int) (h : e ≤ 100) : Few (([] : List Int), e) := ⟨by simp, h, fun _ => rfl⟩
theorem few_ok {l : List Int} (h : l.length ≤ 16) : Few (l, 0) := ⟨h, by simp, fun h => absurd rfl h⟩
theorem at_bad {e : Int} (he : e ≠ 0) (p : Int) : atP (([] : List Int), e) p = ([], e, p) := by unfold atP; rw [if_neg he]
theorem at_ok (l : List Int) (p : Int) : atP (l, 0) p = (l, 0, 0) := by unfold atP; rw [if_pos rfl]
theorem clone_is (l : List Int) (h : l.length ≤ 100) : slices_Clone_int_int.f l = some l := by
  unfold slices_Clone_int_int.f; rw [if_pos (by omega)]
theorem between_is (a b c : Int) : plan_between.f a b c = some (decide (b ≤ a ∧ a ≤ c)) := by
  unfold plan_between.f
  by_cases h : a ≥ b
  · rw [if_pos h]; congr 1; simp [show b ≤ a from h]
  · rw [if_neg h]; congr 1; simp; omega
theorem wpred (n : Nat) (h : n ≤ 1000000) : wrap64 ((n : Int) - 1) = (n : Int) - 1 := w64 (by omega)
/-- An input's kinds. -/
def okK (x : Int) : Bool := x == 0 || x == 1
def inputP (l : List Int) : List Int × Int := if (l.length : Int) > 16 then ([], 3) else if l.all okK = true then (l, 0) else ([], 8)
theorem input_loop (l : List Int) (p : Int) (hl : l.length ≤ 16) (d : Nat) : ∀ (i : Nat), i ≤ l.length → l.length - i = d → Ev (fun k => plan_input.l0 k l p l (l.length : Int) (i : Int)) (if (l.drop i).all okK = true then (l, 0, 0) else ([], 8, p)) := by
  induction d with
  | zero =>
    intro i hi hd
    rw [List.drop_eq_nil_of_le (by omega), if_pos (show ([] : List Int).all okK = true from rfl)]
    exact Ev.step (fun k => by rw [plan_input.l0, if_neg (by omega), clone_is l (by omega), Option.bind_some]) (Ev.now _)
  | succ d ih =>
    intro i hi hd
    have hlt : i < l.length := by omega
    rw [List.drop_eq_getElem_cons hlt, List.all_cons]
    have hr := rd_get hlt
    by_cases h0 : l[i] = 0
    · rw [show okK l[i] = true from by rw [h0]; rfl, Bool.true_and]
      exact Ev.step (fun k => by rw [plan_input.l0, if_pos (by omega), if_pos (by omega), if_pos (by omega), if_pos (by rw [hr, h0]), wnext i (by omega)]) (ih (i + 1) (by omega) (by omega))
    · by_cases h1 : l[i] = 1
      · rw [show okK l[i] = true from by rw [h1]; rfl, Bool.true_and]
        exact Ev.step (fun k => by rw [plan_input.l0, if_pos (by omega), if_pos (by omega), if_pos (by omega), if_neg (by rw [hr]; exact h0), if_pos (by rw [hr, h1]), wnext i (by omega)]) (ih (i + 1) (by omega) (by omega))
      · rw [show okK l[i] = false from by unfold okK; simp [h0, h1], Bool.false_and, if_neg (by decide)]
        exact Ev.step (fun k => by rw [plan_input.l0, if_pos (by omega), if_pos (by omega), if_pos (by omega), if_neg (by rw [hr]; exact h0), if_neg (by rw [hr]; exact h1)]) (Ev.now _)
theorem input_is (l : List Int) (p : Int) : Ev (fun k => plan_input.f k l p) (atP (inputP l) p) ∧ Few (inputP l) := by
  unfold plan_input.f inputP
  by_cases h : (l.length : Int) > 16
  · rw [if_pos h, at_bad (by decide)]
    exact ⟨Ev.congr (fun k => if_pos h) (Ev.now _), few_bad 3 (by decide)⟩
  · rw [if_neg h]
    have e := input_loop l p (by omega) l.length 0 (by omega) (by omega)
    rw [List.drop_zero] at e
    by_cases hh : l.all okK = true
    · rw [if_pos hh] at e ⊢
      rw [at_ok]
      exact ⟨Ev.congr (fun k => if_neg h) e, few_ok (by omega)⟩
    · rw [if_neg hh] at e ⊢
      rw [at_bad (by decide)]
      exact ⟨Ev.congr (fun k => if_neg h) e, few_bad 8 (by decide)⟩
/-- The kinds of expressions. -/
noncomputable def mapF (cols : List Int) : List (List S128) → List Int × Int
  | [] => ([], 0)
  | t :: ts => if (typeP t cols).2.1 = 0 then (if (mapF cols ts).2 = 0 then ((typeP t cols).1 :: (mapF cols ts).1, 0) else ([], (mapF cols ts).2)) else ([], (typeP t cols).2.1)
noncomputable def mapP (l : List (List S128)) (cols : List Int) : List Int × Int := if (l.length : Int) = 0 then ([], 1) else if (l.length : Int) > 16 then ([], 3) else mapF cols l
theorem mapF_len (cols : List Int) : ∀ l : List (List S128), (mapF cols l).1.length ≤ l.length ∧ (mapF cols l).2 ≤ 100 ∧ ((mapF cols l).2 ≠ 0 → (mapF cols l).1 = [])
  | [] => ⟨by simp [mapF], by simp [mapF], fun h => by simp [mapF]⟩
  | t :: ts => by
    have ih := mapF_len cols ts
    have hc := type_code t cols
    rw [mapF]
    by_cases h : (typeP t cols).2.1 = 0
    · rw [if_pos h]
      by_cases h2 : (mapF cols ts).2 = 0
      · rw [if_pos h2]; exact ⟨by simp; omega, by simp, fun h => absurd rfl h⟩
      · rw [if_neg h2]; exact ⟨by simp, ih.2.1, fun _ => rfl⟩
    · rw [if_neg h]; exact ⟨by simp, hc, fun _ => rfl⟩
theorem must_is (e p : Int) : plan_must.f e p = some (if e = 0 then (0, 0) else (e, p)) := by
  unfold plan_must.f; split <;> rfl
theorem rdL_get {l : List (List S128)} {i : Nat} (h : i < l.length) : rd_L4 l (i : Int) = l[i] := by
  unfold rd_L4; rw [Int.toNat_natCast, List.getD_eq_getElem?_getD, List.getElem?_eq_getElem h]; rfl
theorem map_loop (l : List (List S128)) (cols : List Int) (p : Int) (hl : l.length ≤ 16) (d : Nat) : ∀ (i : Nat) (acc : List Int), i ≤ l.length → l.length - i = d → acc.length ≤ i →
    Ev (fun k => plan_mapped.l0 k cols p acc l (l.length : Int) (i : Int)) (if (mapF cols (l.drop i)).2 = 0 then (acc ++ (mapF cols (l.drop i)).1, 0, 0) else ([], (mapF cols (l.drop i)).2, p)) := by
  induction d with
  | zero =>
    intro i acc hi hd ha
    rw [List.drop_eq_nil_of_le (by omega)]
    simp only [mapF, if_true, List.append_nil]
    exact Ev.step (fun k => by rw [plan_mapped.l0, if_neg (by omega)]) (Ev.now _)
  | succ d ih =>
    intro i acc hi hd ha
    have hlt : i < l.length := by omega
    rw [List.drop_eq_getElem_cons hlt, mapF]
    have hr := rdL_get hlt
    have st : ∀ k, plan_mapped.l0 (k + 1) cols p acc l (l.length : Int) (i : Int) = (expr_Type.f k l[i] cols).bind fun bt => if bt.2.1 = 0 then plan_mapped.l0 k cols p (acc ++ [bt.1]) l (l.length : Int) ((i + 1 : Nat) : Int) else some ([], bt.2.1, p) := fun k => by
      rw [plan_mapped.l0, if_pos (by omega), if_pos (by omega), if_pos (by omega), hr, wnext i (by omega)]
      congr 1
      funext bt
      rw [must_is, Option.bind_some]
      by_cases h : bt.2.1 = 0
      · rw [if_pos h, if_pos h, if_pos rfl, if_pos (by omega)]
      · rw [if_neg h, if_neg h, if_neg h]
    by_cases h : (typeP l[i] cols).2.1 = 0
    · rw [if_pos h]
      have e := ih (i + 1) (acc ++ [(typeP l[i] cols).1]) (by omega) (by omega) (by rw [List.length_append]; simp; omega)
      by_cases h2 : (mapF cols (l.drop (i + 1))).2 = 0
      · rw [if_pos h2] at e ⊢
        rw [if_pos rfl]
        rw [List.append_assoc] at e
        exact Ev.step st (Ev.bind (type_ev _ _) (Ev.congr (fun k => if_pos h) e))
      · rw [if_neg h2] at e ⊢
        rw [if_neg h2]
        exact Ev.step st (Ev.bind (type_ev _ _) (Ev.congr (fun k => if_pos h) e))
    · rw [if_neg h, if_neg h]
      exact Ev.step st (Ev.bind (type_ev _ _) (Ev.congr (fun k => if_neg h) (Ev.now _)))
theorem map_is (l : List (List S128)) (cols : List Int) (p : Int) : Ev (fun k => plan_mapped.f k l cols p) (atP (mapP l cols) p) ∧ Few (mapP l cols) := by
  unfold plan_mapped.f mapP
  by_cases h0 : (l.length : Int) = 0
  · rw [if_pos h0, at_bad (by decide)]
    exact ⟨Ev.congr (fun k => if_pos h0) (Ev.now _), few_bad 1 (by decide)⟩
  rw [if_neg h0]
  by_cases h : (l.length : Int) > 16
  · rw [if_pos h, at_bad (by decide)]
    exact ⟨Ev.congr (fun k => (if_neg h0).trans (if_pos h)) (Ev.now _), few_bad 3 (by decide)⟩
  rw [if_neg h]
  have e := map_loop l cols p (by omega) l.length 0 [] (by omega) (by omega) (Nat.le_refl _)
  rw [List.drop_zero, List.nil_append] at e
  have hm := mapF_len cols l
  refine ⟨Ev.congr (fun k => (if_neg h0).trans (if_neg h)) ?_, by omega, hm.2⟩
  unfold atP
  exact e
/-- Some of the kinds. -/
def projF (cols : List Int) : List Int → List Int × Int
  | [] => ([], 0)
  | c :: cs => if 0 ≤ c ∧ c < (cols.length : Int) then (if (projF cols cs).2 = 0 then (rd cols c :: (projF cols cs).1, 0) else ([], (projF cols cs).2)) else ([], 9)
def projP (l cols : List Int) : List Int × Int := if (l.length : Int) > 16 then ([], 3) else projF cols l
theorem projF_len (cols : List Int) : ∀ l : List Int, (projF cols l).1.length ≤ l.length ∧ (projF cols l).2 ≤ 100 ∧ ((projF cols l).2 ≠ 0 → (projF cols l).1 = [])
  | [] => ⟨by simp [projF], by simp [projF], fun h => by simp [projF]⟩
  | t :: ts => by
    have ih := projF_len cols ts
    rw [projF]
    by_cases h : 0 ≤ t ∧ t < (cols.length : Int)
    · rw [if_pos h]
      by_cases h2 : (projF cols ts).2 = 0
      · rw [if_pos h2]; exact ⟨by simp; omega, by simp, fun h => absurd rfl h⟩
      · rw [if_neg h2]; exact ⟨by simp, ih.2.1, fun _ => rfl⟩
    · rw [if_neg h]; exact ⟨by simp, by simp, fun _ => rfl⟩
theorem proj_loop (l cols : List Int) (p : Int) (hl : l.length ≤ 16) (hc : cols.length ≤ 100) (d : Nat) : ∀ (i : Nat) (acc : List Int), i ≤ l.length → l.length - i = d → acc.length ≤ i →
    Ev (fun k => plan_projected.l0 k cols p acc l (l.length : Int) (i : Int)) (if (projF cols (l.drop i)).2 = 0 then (acc ++ (projF cols (l.drop i)).1, 0, 0) else ([], (projF cols (l.drop i)).2, p)) := by
  induction d with
  | zero =>
    intro i acc hi hd ha
    rw [List.drop_eq_nil_of_le (by omega)]
    simp only [projF, if_true, List.append_nil]
    exact Ev.step (fun k => by rw [plan_projected.l0, if_neg (by omega)]) (Ev.now _)
  | succ d ih =>
    intro i acc hi hd ha
    have hlt : i < l.length := by omega
    rw [List.drop_eq_getElem_cons hlt, projF]
    have hr := rd_get hlt
    by_cases h : 0 ≤ l[i] ∧ l[i] < (cols.length : Int)
    · rw [if_pos h]
      have st : ∀ k, plan_projected.l0 (k + 1) cols p acc l (l.length : Int) (i : Int) = plan_projected.l0 k cols p (acc ++ [rd cols l[i]]) l (l.length : Int) ((i + 1 : Nat) : Int) := fun k => by
        rw [plan_projected.l0, if_pos (by omega), if_pos (by omega), if_pos (by omega), hr, between_is, Option.bind_some, if_pos (by rw [wpred _ (by omega)]; exact decide_eq_true ⟨h.1, by omega⟩), if_pos h.1, if_pos h.2, if_pos (by omega), wnext i (by omega)]
      have e := ih (i + 1) (acc ++ [rd cols l[i]]) (by omega) (by omega) (by rw [List.length_append]; simp; omega)
      by_cases h2 : (projF cols (l.drop (i + 1))).2 = 0
      · rw [if_pos h2] at e ⊢
        rw [if_pos rfl]
        rw [List.append_assoc] at e
        exact Ev.step st e
      · rw [if_neg h2] at e ⊢
        rw [if_neg h2]
        exact Ev.step st e
    · rw [if_neg h, if_neg (by decide)]
      refine Ev.step (fun k => ?_) (Ev.now _)
      rw [plan_projected.l0, if_pos (by omega), if_pos (by omega), if_pos (by omega), hr, between_is, Option.bind_some, if_neg (by rw [wpred _ (by omega)]; simp only [decide_eq_true_eq]; omega)]
theorem proj_is (l cols : List Int) (p : Int) (hc : cols.length ≤ 100) : Ev (fun k => plan_projected.f k l cols p) (atP (projP l cols) p) ∧ Few (projP l cols) := by
  unfold plan_projected.f projP
  by_cases h : (l.length : Int) > 16
  · rw [if_pos h, at_bad (by decide)]
    exact ⟨Ev.congr (fun k => if_pos h) (Ev.now _), few_bad 3 (by decide)⟩
  rw [if_neg h]
  have e := proj_loop l cols p (by omega) hc l.length 0 [] (by omega) (by omega) (Nat.le_refl _)
  rw [List.drop_zero, List.nil_append] at e
  have hm := projF_len cols l
  refine ⟨Ev.congr (fun k => if_neg h) ?_, by omega, hm.2⟩
  unfold atP
  exact e
/-- A window's error. -/
def winP (a b : Int) : Int := if 1 ≤ a ∧ a ≤ 1099511627776 ∧ 1 ≤ b ∧ b ≤ 1099511627776 then (if a > wrap64 (64 * b) then 3 else 0) else 1
theorem wbetween_is (a b c : Int) : window_between_int.f a b c = some (decide (b ≤ a ∧ a ≤ c)) := by
  unfold window_between_int.f
  by_cases h : a ≥ b
  · rw [if_pos h]; congr 1; simp [show b ≤ a from h]
  · rw [if_neg h]; congr 1; simp; omega
theorem win_is (a b : Int) : Ev (fun k => window_Check.f k a b) (winP a b) ∧ winP a b ≤ 100 := by
  unfold window_Check.f winP
  refine ⟨?_, by repeat' split
                 all_goals decide⟩
  rw [wbetween_is, wbetween_is]
  simp only [Option.bind_some]
  by_cases h1 : 1 ≤ a ∧ a ≤ 1099511627776
  · by_cases h2 : 1 ≤ b ∧ b ≤ 1099511627776
    · rw [if_pos ⟨h1.1, h1.2, h2.1, h2.2⟩, decide_eq_true h1, decide_eq_true h2]
      simp only [if_true, Bool.not_true]
      by_cases h3 : a > wrap64 (64 * b)
      · rw [if_pos h3]; exact Ev.step (fun k => by rw [window_Check.j0, if_neg (by decide), if_pos h3]) (Ev.now _)
      · rw [if_neg h3]; exact Ev.step (fun k => by rw [window_Check.j0, if_neg (by decide), if_neg h3]) (Ev.now _)
    · rw [if_neg (by omega), decide_eq_true h1, decide_eq_false h2]
      simp only [if_true, Bool.not_false]
      exact Ev.step (fun k => by rw [window_Check.j0, if_pos rfl]) (Ev.now _)
  · rw [if_neg (by omega), decide_eq_false h1]
    simp only [Bool.false_eq_true, if_false]
    exact Ev.step (fun k => by rw [window_Check.j0, if_pos rfl]) (Ev.now _)
/-- One column more, a window's. -/
def bucketP (n size slide : Int) (cols : List Int) : List Int × Int := if 0 ≤ n ∧ n < (cols.length : Int) then (if rd cols n = 0 then (if winP size slide = 0 then (if (cols.length : Int) ≥ 16 then ([], 3) else (cols ++ [0], 0)) else ([], winP size slide)) else ([], 80)) else ([], 9)
theorem bucket_is (f0 : Int) (f1 f2 : List Int) (f3 : List (List S128)) (f4 : List Int) (f5 n size slide : Int) (cols : List Int) (p : Int) (hc : cols.length ≤ 100) : Ev (fun k => plan_bucketed.f k f0 f1 f2 f3 f4 f5 n size slide cols p) (atP (bucketP n size slide cols) p) ∧ Few (bucketP n size slide cols) := by
  unfold bucketP
  obtain ⟨hw, hw2⟩ := win_is size slide
  by_cases h : 0 ≤ n ∧ n < (cols.length : Int)
  · have hd : decide (0 ≤ n ∧ n ≤ (cols.length : Int) - 1) = true := decide_eq_true ⟨h.1, by omega⟩
    rw [if_pos h]
    by_cases h0 : rd cols n = 0
    · rw [if_pos h0]
      have st : ∀ k, plan_bucketed.f k f0 f1 f2 f3 f4 f5 n size slide cols p = (window_Check.f k size slide).bind fun t => if t = 0 then (if (cols.length : Int) ≥ 16 then some (([] : List Int), (3 : Int), p) else some (cols ++ [0], 0, 0)) else some (([] : List Int), t, p) := fun k => by
        rw [plan_bucketed.f, between_is, wpred _ (by omega), Option.bind_some, if_pos hd, if_pos h.1, if_pos h.2, if_pos h0]
        congr 1
        funext t
        rw [must_is, Option.bind_some]
        by_cases ht : t = 0
        · rw [if_pos ht, if_pos rfl, if_pos ht]
          by_cases hx : (cols.length : Int) ≥ 16
          · rw [if_pos hx, if_pos hx]
          · rw [if_neg hx, if_neg hx, clone_is cols hc, Option.bind_some, if_pos (by omega)]
        · rw [if_neg ht, if_neg ht, if_neg ht]
      by_cases h1 : winP size slide = 0
      · rw [if_pos h1]
        by_cases h2 : (cols.length : Int) ≥ 16
        · rw [if_pos h2, at_bad (by decide)]
          exact ⟨Ev.congr st (Ev.bind hw (Ev.congr (fun k => (if_pos h1).trans (if_pos h2)) (Ev.now _))), few_bad 3 (by decide)⟩
        · rw [if_neg h2, at_ok]
          exact ⟨Ev.congr st (Ev.bind hw (Ev.congr (fun k => (if_pos h1).trans (if_neg h2)) (Ev.now _))), few_ok (by rw [List.length_append]; simp; omega)⟩
      · rw [if_neg h1, at_bad h1]
        exact ⟨Ev.congr st (Ev.bind hw (Ev.congr (fun k => if_neg h1) (Ev.now _))), few_bad _ hw2⟩
    · rw [if_neg h0, at_bad (by decide)]
      exact ⟨Ev.congr (fun k => by rw [plan_bucketed.f, between_is, wpred _ (by omega), Option.bind_some, if_pos hd, if_pos h.1, if_pos h.2, if_neg h0]) (Ev.now _), few_bad 80 (by decide)⟩
  · rw [if_neg h, at_bad (by decide)]
    have hd : ¬ decide (0 ≤ n ∧ n ≤ (cols.length : Int) - 1) = true := by simp only [decide_eq_true_eq]; omega
    exact ⟨Ev.congr (fun k => by rw [plan_bucketed.f, between_is, wpred _ (by omega), Option.bind_some, if_neg hd]) (Ev.now _), few_bad 9 (by decide)⟩
theorem equal_loop (a b : List Int) (hl : a.length = b.length) (ha : a.length ≤ 1000) (d : Nat) : ∀ (i : Nat), i ≤ a.length → a.length - i = d → Ev (fun k => slices_Equal_int_int.l0 k a b (a.length : Int) (i : Int)) (decide (a.drop i = b.drop i)) := by
  induction d with
  | zero =>
    intro i hi hd
    rw [List.drop_eq_nil_of_le (by omega), List.drop_eq_nil_of_le (by omega), decide_eq_true rfl]
    exact Ev.step (fun k => by rw [slices_Equal_int_int.l0, if_neg (by omega)]) (Ev.now _)
  | succ d ih =>
    intro i hi hd
    have h1 : i < a.length := by omega
    have h2 : i < b.length := by omega
    rw [List.drop_eq_getElem_cons h1, List.drop_eq_getElem_cons h2]
    by_cases h : a[i] = b[i]
    · rw [show decide (a[i] :: a.drop (i + 1) = b[i] :: b.drop (i + 1)) = decide (a.drop (i + 1) = b.drop (i + 1)) from decide_eq_decide.2 ⟨fun e => (List.cons.inj e).2, fun e => by rw [h, e]⟩]
      exact Ev.step (fun k => by rw [slices_Equal_int_int.l0, if_pos (by omega), if_pos (by omega), if_pos (by omega), if_pos (by omega), if_pos (by rw [rd_get h1, rd_get h2, h]), wnext i (by omega)]) (ih (i + 1) (by omega) (by omega))
    · rw [decide_eq_false (fun e => h (List.cons.inj e).1)]
      exact Ev.step (fun k => by rw [slices_Equal_int_int.l0, if_pos (by omega), if_pos (by omega), if_pos (by omega), if_pos (by omega), if_neg (by rw [rd_get h1, rd_get h2]; exact h)]) (Ev.now _)
theorem equal_is (a b : List Int) (ha : a.length ≤ 1000) : Ev (fun k => slices_Equal_int_int.f k a b) (decide (a = b)) := by
  unfold slices_Equal_int_int.f
  by_cases h : (a.length : Int) = (b.length : Int)
  · have e := equal_loop a b (by omega) ha a.length 0 (by omega) (by omega)
    rw [List.drop_zero, List.drop_zero] at e
    exact Ev.congr (fun k => if_pos h) e
  · rw [decide_eq_false (fun e => h (by rw [e]))]
    exact Ev.congr (fun k => if_neg h) (Ev.now _)
theorem concat_is (a b : List Int) (h : a.length + b.length ≤ 1000) : Ev (fun k => slices_Concat_int_int.f k [a, b]) (a ++ b) := by
  unfold slices_Concat_int_int.f
  have g0 : rd_L3 [a, b] 0 = a := rfl
  have g1 : rd_L3 [a, b] 1 = b := rfl
  have l2 : (([a, b] : List (List Int)).length : Int) = 2 := rfl
  have w0 : wrap64 (0 + (a.length : Int)) = (a.length : Int) := by rw [w64 (by omega)]; omega
  have w1 : wrap64 ((a.length : Int) + (b.length : Int)) = (a.length : Int) + (b.length : Int) := w64 (by omega)
  have n1 : wrap64 ((0 : Int) + 1) = 1 := by decide +kernel
  have n2 : wrap64 ((1 : Int) + 1) = 2 := by decide +kernel
  rw [l2]
  refine Ev.step (fun k => by rw [slices_Concat_int_int.l0, if_pos (by decide), if_pos (by decide), if_pos (by rw [l2]; decide), g0, w0, if_neg (by omega), n1]) ?_
  refine Ev.step (fun k => by rw [slices_Concat_int_int.l0, if_pos (by decide), if_pos (by decide), if_pos (by rw [l2]; decide), g1, w1, if_neg (by omega), n2]) ?_
  refine Ev.step (fun k => by rw [slices_Concat_int_int.l0, if_neg (by decide), if_pos (by omega), if_pos (by omega), l2]) ?_
  refine Ev.step (fun k => by rw [slices_Concat_int_int.l1, if_pos (by decide), if_pos (by decide), if_pos (by rw [l2]; decide), g0, if_pos (by simp; omega), n1, List.nil_append]) ?_
  refine Ev.step (fun k => by rw [slices_Concat_int_int.l1, if_pos (by decide), if_pos (by decide), if_pos (by rw [l2]; decide), g1, if_pos (by omega), n2]) ?_
  exact Ev.step (fun k => by rw [slices_Concat_int_int.l1, if_neg (by decide)]) (Ev.now _)
/-- Of both. -/
def joinP (key : Int) (a b : List Int) : List Int × Int := if 0 ≤ key ∧ key ≤ (a.length : Int) ∧ key ≤ (b.length : Int) then (if a.take key.toNat = b.take key.toNat then (if (a.length : Int) + (b.length : Int) - key > 16 then ([], 3) else (a ++ b.drop key.toNat, 0)) else ([], 80)) else ([], 9)
theorem join_is (key : Int) (a b : List Int) (p : Int) (ha : a.length ≤ 100) (hb : b.length ≤ 100) : Ev (fun k => plan_joined.f k key a b p) (atP (joinP key a b) p) ∧ Few (joinP key a b) := by
  unfold joinP
  have hm : (key ≤ mn (a.length : Int) (b.length : Int)) ↔ (key ≤ (a.length : Int) ∧ key ≤ (b.length : Int)) := by
    unfold mn; split <;> omega
  by_cases h : 0 ≤ key ∧ key ≤ (a.length : Int) ∧ key ≤ (b.length : Int)
  · have hd : decide (0 ≤ key ∧ key ≤ mn (a.length : Int) (b.length : Int)) = true := decide_eq_true ⟨h.1, hm.2 h.2⟩
    rw [if_pos h]
    have he := equal_is (a.take key.toNat) (b.take key.toNat) (by rw [List.length_take]; omega)
    have hw : wrap64 (wrap64 ((a.length : Int) + (b.length : Int)) - key) = (a.length : Int) + (b.length : Int) - key := by rw [w64 (x := (a.length : Int) + (b.length : Int)) (by omega), w64 (by omega)]
    have st : ∀ k, plan_joined.f k key a b p = (slices_Equal_int_int.f k (a.take key.toNat) (b.take key.toNat)).bind fun t => if t = true then (if (a.length : Int) + (b.length : Int) - key > 16 then some (([] : List Int), (3 : Int), p) else ((slices_Concat_int_int.f k ([a, b.drop key.toNat] : List (List Int))).bind fun t2 => some (t2, 0, 0))) else some (([] : List Int), 80, p) := fun k => by
      rw [plan_joined.f, between_is, Option.bind_some, if_pos hd, if_pos h.1, if_pos h.2.1, if_pos h.2.2, hw]
    by_cases h1 : a.take key.toNat = b.take key.toNat
    · rw [if_pos h1]
      rw [decide_eq_true h1] at he
      by_cases h2 : (a.length : Int) + (b.length : Int) - key > 16
      · rw [if_pos h2, at_bad (by decide)]
        exact ⟨Ev.congr st (Ev.bind he (Ev.congr (fun k => (if_pos rfl).trans (if_pos h2)) (Ev.now _))), few_bad 3 (by decide)⟩
      · rw [if_neg h2, at_ok]
        exact ⟨Ev.congr st (Ev.bind he (Ev.congr (fun k => (if_pos rfl).trans (if_neg h2)) (Ev.bind (concat_is a (b.drop key.toNat) (by rw [List.length_drop]; omega)) (Ev.now _)))), few_ok (by rw [List.length_append, List.length_drop]; omega)⟩
    · rw [if_neg h1, at_bad (by decide)]
      rw [decide_eq_false h1] at he
      exact ⟨Ev.congr st (Ev.bind he (Ev.congr (fun k => if_neg (by decide)) (Ev.now _))), few_bad 80 (by decide)⟩
  · rw [if_neg h, at_bad (by decide)]
    have hd : ¬ decide (0 ≤ key ∧ key ≤ mn (a.length : Int) (b.length : Int)) = true := by simp only [decide_eq_true_eq, hm]; omega
    exact ⟨Ev.congr (fun k => by rw [plan_joined.f, between_is, Option.bind_some, if_neg hd]) (Ev.now _), few_bad 9 (by decide)⟩
/-- A group's kinds (g from 0 to 5). -/
def groupP (g key n : Int) (cols : List Int) : List Int × Int :=
  if g ≠ 0 ∧ (key < 0 ∨ key > (cols.length : Int)) then ([], 9)
  else if g = 2 then (if n < 0 ∨ n ≥ (cols.length : Int) then ([], 9) else if rd cols n = 0 then (if key ≥ 16 then ([], 3) else (cols.take key.toNat ++ [0], 0)) else ([], 80))
  else if g = 1 then (if key ≥ 16 then ([], 3) else (cols.take key.toNat ++ [0], 0))
  else if g = 5 ∧ (n < 1 ∨ n > 1000) then ([], 1) else (cols, 0)
theorem known_is (g n : Int) (h0 : 0 ≤ g) (h1 : g ≤ 5) : Ev (fun k => group_known.f k g n) (if g = 5 ∧ (n < 1 ∨ n > 1000) then 1 else 0) := by
  refine Ev.congr (fun k => by rw [group_known.f, if_neg (by omega), decide_eq_false (by omega)]) ?_
  by_cases h : g = 5
  · by_cases h2 : n < 1
    · rw [if_pos ⟨h, .inl h2⟩]; exact Ev.step (fun k => by rw [group_known.j0, if_neg (by decide), if_pos h, if_pos h2]) (Ev.now _)
    · by_cases h3 : n > 1000
      · rw [if_pos ⟨h, .inr h3⟩]; exact Ev.step (fun k => by rw [group_known.j0, if_neg (by decide), if_pos h, if_neg h2, if_pos h3]) (Ev.now _)
      · rw [if_neg (by omega)]; exact Ev.step (fun k => by rw [group_known.j0, if_neg (by decide), if_pos h, if_neg h2, if_neg h3]) (Ev.now _)
  · rw [if_neg (by omega)]; exact Ev.step (fun k => by rw [group_known.j0, if_neg (by decide), if_neg h]) (Ev.now _)
theorem take_clone (key : Int) (cols : List Int) (hc : cols.length ≤ 100) : slices_Clone_int_int.f (cols.take key.toNat) = some (cols.take key.toNat) := clone_is _ (by rw [List.length_take]; omega)
theorem gcheck_is (g key n : Int) (cols : List Int) (h0 : 0 ≤ g) (h1 : g ≤ 5) (hc : cols.length ≤ 16) : Ev (fun k => group_Check.f k g key n cols) (groupP g key n cols) ∧ Few (groupP g key n cols) := by
  have st0 : ∀ r, Ev (fun k => group_Check.j1 k g key n cols (decide (g ≠ 0 ∧ (key < 0 ∨ key > (cols.length : Int))))) r → Ev (fun k => group_Check.f k g key n cols) r := fun r hr => by
    refine Ev.congr (fun k => by rw [group_Check.f, if_neg (by omega), decide_eq_false (by omega)]) ?_
    by_cases hg : g = 0
    · rw [decide_eq_false (by omega)] at hr
      exact Ev.step (fun k => by rw [group_Check.j0, if_neg (by decide), if_pos hg]) hr
    · by_cases hk : key < 0
      · rw [decide_eq_true ⟨hg, .inl hk⟩] at hr
        exact Ev.step (fun k => by rw [group_Check.j0, if_neg (by decide), if_neg hg, if_pos hk]) hr
      · rw [show decide (g ≠ 0 ∧ (key < 0 ∨ key > (cols.length : Int))) = decide (key > (cols.length : Int)) from decide_eq_decide.2 (by omega)] at hr
        exact Ev.step (fun k => by rw [group_Check.j0, if_neg (by decide), if_neg hg, if_neg hk]) hr
  unfold groupP
  by_cases c0 : g ≠ 0 ∧ (key < 0 ∨ key > (cols.length : Int))
  · rw [if_pos c0]
    rw [decide_eq_true c0] at st0
    exact ⟨st0 _ (Ev.step (fun k => by rw [group_Check.j1, if_pos rfl]) (Ev.now _)), few_bad 9 (by decide)⟩
  rw [if_neg c0]
  rw [decide_eq_false c0] at st0
  have tk : (cols.take key.toNat).length < 17592186044416 := by rw [List.length_take]; omega
  have few : ∀ _ : ¬ key ≥ 16, Few (cols.take key.toNat ++ [0], 0) := fun h => few_ok (by rw [List.length_append, List.length_take]; simp; omega)
  by_cases g2 : g = 2
  · rw [if_pos g2]
    by_cases n0 : n < 0 ∨ n ≥ (cols.length : Int)
    · rw [if_pos n0]
      refine ⟨st0 _ ?_, few_bad 9 (by decide)⟩
      by_cases n1 : n < 0
      · exact Ev.step (fun k => by rw [group_Check.j1, if_neg (by decide), if_pos g2, if_pos n1]) (Ev.step (fun k => by rw [group_Check.j2, if_pos rfl]) (Ev.now _))
      · exact Ev.step (fun k => by rw [group_Check.j1, if_neg (by decide), if_pos g2, if_neg n1, decide_eq_true (by omega)]) (Ev.step (fun k => by rw [group_Check.j2, if_pos rfl]) (Ev.now _))
    · rw [if_neg n0]
      have st : ∀ r, Ev (fun k => group_Check.j2 k key n cols false) r → Ev (fun k => group_Check.f k g key n cols) r := fun r hr => st0 _ (Ev.step (fun k => by rw [group_Check.j1, if_neg (by decide), if_pos g2, if_neg (by omega), decide_eq_false (by omega)]) hr)
      by_cases z : rd cols n = 0
      · rw [if_pos z]
        by_cases k16 : key ≥ 16
        · rw [if_pos k16]
          exact ⟨st _ (Ev.step (fun k => by rw [group_Check.j2, if_neg (by decide), if_pos (by omega), if_pos (by omega), if_pos z, if_pos k16]) (Ev.now _)), few_bad 3 (by decide)⟩
        · rw [if_neg k16]
          exact ⟨st _ (Ev.step (fun k => by rw [group_Check.j2, if_neg (by decide), if_pos (by omega), if_pos (by omega), if_pos z, if_neg k16, if_pos (by omega), if_pos (by omega), take_clone key cols (by omega), Option.bind_some, if_pos tk]) (Ev.now _)), few k16⟩
      · rw [if_neg z]
        exact ⟨st _ (Ev.step (fun k => by rw [group_Check.j2, if_neg (by decide), if_pos (by omega), if_pos (by omega), if_neg z]) (Ev.now _)), few_bad 80 (by decide)⟩
  · rw [if_neg g2]
    by_cases g1 : g = 1
    · rw [if_pos g1]
      by_cases k16 : key ≥ 16
      · rw [if_pos k16]
        exact ⟨st0 _ (Ev.step (fun k => by rw [group_Check.j1, if_neg (by decide), if_neg g2, if_pos g1, if_pos k16]) (Ev.now _)), few_bad 3 (by decide)⟩
      · rw [if_neg k16]
        exact ⟨st0 _ (Ev.step (fun k => by rw [group_Check.j1, if_neg (by decide), if_neg g2, if_pos g1, if_neg k16, if_pos (by omega), if_pos (by omega), take_clone key cols (by omega), Option.bind_some, if_pos tk]) (Ev.now _)), few k16⟩
    · rw [if_neg g1]
      have kn := known_is g n h0 h1
      have st : ∀ k, group_Check.j1 (k + 1) g key n cols false = (group_known.f k g n).bind fun t => if t = 0 then ((slices_Clone_int_int.f cols).bind fun t2 => some (t2, 0)) else some (([] : List Int), t) := fun k => by
        rw [group_Check.j1, if_neg (by decide), if_neg g2, if_neg g1]
      by_cases g5 : g = 5 ∧ (n < 1 ∨ n > 1000)
      · rw [if_pos g5] at kn ⊢
        exact ⟨st0 _ (Ev.step st (Ev.bind kn (Ev.congr (fun k => if_neg (by decide)) (Ev.now _)))), few_bad 1 (by decide)⟩
      · rw [if_neg g5] at kn ⊢
        exact ⟨st0 _ (Ev.step st (Ev.bind kn (Ev.congr (fun k => by rw [if_pos rfl, clone_is cols (by omega), Option.bind_some]) (Ev.now _)))), few_ok hc⟩
theorem group_is (x : Int) (f1 f2 : List Int) (f3 : List (List S128)) (f4 : List Int) (f5 f6 f7 f8 : Int) : plan_Group.f x f1 f2 f3 f4 f5 f6 f7 f8 = some (if 9 ≤ x ∧ x ≤ 14 then (x - 9, true) else (0, false)) := by
  by_cases h : 9 ≤ x ∧ x ≤ 14
  · rw [if_pos h]
    unfold plan_Group.f
    have : x = 9 ∨ x = 10 ∨ x = 11 ∨ x = 12 ∨ x = 13 ∨ x = 14 := by omega
    rcases this with rfl | rfl | rfl | rfl | rfl | rfl <;> decide +kernel
  · rw [if_neg h]
    unfold plan_Group.f
    rw [if_neg (by omega), if_neg (by omega), if_neg (by omega), if_neg (by omega), if_neg (by omega), if_neg (by omega)]
theorem mapF_ok (cols : List Int) : ∀ l : List (List S128), (mapF cols l).2 = 0 → (mapF cols l).1.length = l.length
  | [], _ => by simp [mapF]
  | t :: ts, h => by
    rw [mapF] at h ⊢
    by_cases h1 : (typeP t cols).2.1 = 0
    · rw [if_pos h1] at h ⊢
      by_cases h2 : (mapF cols ts).2 = 0
      · rw [if_pos h2]; simp [mapF_ok cols ts h2]
      · rw [if_neg h2] at h; exact absurd h h2
    · rw [if_neg h1] at h; exact absurd h h1
/-- A node's kinds, and the error. -/
noncomputable def ofP (x : S42) (kinds : List (List Int)) : List Int × Int :=
  if x.f0 = 0 then inputP x.f2
  else if 9 ≤ x.f0 ∧ x.f0 ≤ 14 then groupP (x.f0 - 9) x.f5 x.f6 (rd_L3 kinds (rd x.f1 0))
  else if x.f0 = 1 then mapP x.f3 (rd_L3 kinds (rd x.f1 0))
  else if x.f0 = 2 then (if (x.f3.length : Int) = 1 then (if (mapP x.f3 (rd_L3 kinds (rd x.f1 0))).2 = 0 then (if rd (mapP x.f3 (rd_L3 kinds (rd x.f1 0))).1 0 = 0 then (rd_L3 kinds (rd x.f1 0), 0) else ([], 80)) else ([], (mapP x.f3 (rd_L3 kinds (rd x.f1 0))).2)) else ([], 1))
  else if x.f0 = 3 then projP x.f4 (rd_L3 kinds (rd x.f1 0))
  else if x.f0 = 4 then (if x.f1.all (fun i => decide (rd_L3 kinds i = rd_L3 kinds (rd x.f1 0))) = true then (rd_L3 kinds (rd x.f1 0), 0) else ([], 80))
  else if x.f0 = 7 then bucketP x.f6 x.f7 x.f8 (rd_L3 kinds (rd x.f1 0))
  else if x.f0 = 15 then joinP x.f5 (rd_L3 kinds (rd x.f1 0)) (rd_L3 kinds (rd x.f1 1))
  else if x.f0 = 8 then (if 0 ≤ x.f5 ∧ x.f5 ≤ ((rd_L3 kinds (rd x.f1 0)).length : Int) then (rd_L3 kinds (rd x.f1 0), 0) else ([], 9))
  else (rd_L3 kinds (rd x.f1 0), 0)
theorem same_rows (ins : List Int) (kinds : List (List Int)) (cols : List Int) (p : Int) (hins : ∀ i ∈ ins, 0 ≤ i ∧ i < (kinds.length : Int)) (hk : ∀ i : Int, (rd_L3 kinds i).length ≤ 16) (hc : cols.length ≤ 16) (hl : ins.length ≤ 100) (d : Nat) : ∀ (i : Nat), i ≤ ins.length → ins.length - i = d →
    Ev (fun k => plan_typer_of.l0 k ins kinds cols p (i : Int)) (if (ins.drop i).all (fun i => decide (rd_L3 kinds i = cols)) = true then (cols, 0, 0) else ([], 80, p)) := by
  induction d with
  | zero =>
    intro i hi hd
    rw [List.drop_eq_nil_of_le (by omega), if_pos (show ([] : List Int).all _ = true from rfl)]
    exact Ev.step (fun k => by rw [plan_typer_of.l0, if_neg (by omega), clone_is cols (by omega), Option.bind_some]) (Ev.now _)
  | succ d ih =>
    intro i hi hd
    have hlt : i < ins.length := by omega
    rw [List.drop_eq_getElem_cons hlt, List.all_cons]
    have hr := rd_get hlt
    have hin := hins ins[i] (List.getElem_mem hlt)
    have st : ∀ k, plan_typer_of.l0 (k + 1) ins kinds cols p (i : Int) = (slices_Equal_int_int.f k (rd_L3 kinds ins[i]) cols).bind fun t => (if t = true then (plan_typer_of.l0 k ins kinds cols p ((i + 1 : Nat) : Int)) else (some (([] : List Int), 80, p))) := fun k => by
      rw [plan_typer_of.l0, if_pos (by omega), if_pos (by omega), hr, if_pos hin.1, if_pos hin.2, wnext i (by omega)]
    have he := equal_is (rd_L3 kinds ins[i]) cols (by have := hk ins[i]; omega)
    by_cases h : rd_L3 kinds ins[i] = cols
    · rw [decide_eq_true h, Bool.true_and]
      rw [decide_eq_true h] at he
      exact Ev.step st (Ev.bind he (Ev.congr (fun k => if_pos rfl) (ih (i + 1) (by omega) (by omega))))
    · rw [decide_eq_false h, Bool.false_and, if_neg (by decide)]
      rw [decide_eq_false h] at he
      exact Ev.step st (Ev.bind he (Ev.congr (fun k => if_neg (by decide)) (Ev.now _)))
theorem ofh_is (x : S42) (kinds : List (List Int)) (p : Int) (h00 : x.f0 ≠ 0) (h1 : 0 < x.f1.length) (h15 : x.f0 = 15 → 1 < x.f1.length) (hl : x.f1.length ≤ 100) (hins : ∀ i ∈ x.f1, 0 ≤ i ∧ i < (kinds.length : Int)) (hk : ∀ i : Int, (rd_L3 kinds i).length ≤ 16) :
    Ev (fun k => plan_typer_of.h k x.f0 x.f1 x.f2 x.f3 x.f4 x.f5 x.f6 x.f7 x.f8 kinds (rd_L3 kinds (rd x.f1 0)) p) (atP (ofP x kinds) p) ∧ Few (ofP x kinds) := by
  unfold ofP
  rw [if_neg h00]
  have hc := hk (rd x.f1 0)
  have hr := same_rows x.f1 kinds (rd_L3 kinds (rd x.f1 0)) p hins hk hc hl x.f1.length 0 (by omega) (by omega)
  rw [List.drop_zero] at hr
  have h2 := hk (rd x.f1 1)
  have i1 : x.f0 = 15 → 0 ≤ rd x.f1 1 ∧ rd x.f1 1 < (kinds.length : Int) := fun h => by
    have := h15 h
    have e := rd_get this
    rw [show ((1 : Nat) : Int) = 1 from rfl] at e
    rw [e]; exact hins _ (List.getElem_mem this)
  generalize rd_L3 kinds (rd x.f1 0) = cols at hc hr ⊢
  have hg : plan_Group.f x.f0 x.f1 x.f2 x.f3 x.f4 x.f5 x.f6 x.f7 x.f8 = _ := group_is x.f0 x.f1 x.f2 x.f3 x.f4 x.f5 x.f6 x.f7 x.f8
  have hcl := clone_is cols (by omega)
  by_cases g : 9 ≤ x.f0 ∧ x.f0 ≤ 14
  · rw [if_pos g]
    rw [if_pos g] at hg
    obtain ⟨e, f⟩ := gcheck_is (x.f0 - 9) x.f5 x.f6 cols (by omega) (by omega) hc
    refine ⟨?_, f⟩
    refine Ev.congr (fun k => by rw [plan_typer_of.h, hg, Option.bind_some, if_pos rfl]) (Ev.bind e ?_)
    unfold atP
    by_cases z : (groupP (x.f0 - 9) x.f5 x.f6 cols).2 = 0
    · rw [if_pos z]
      exact Ev.congr (fun k => by rw [must_is, if_pos z, Option.bind_some, if_pos rfl]) (Ev.now _)
    · rw [if_neg z]
      exact Ev.congr (fun k => by rw [must_is, if_neg z, Option.bind_some, if_neg z]) (Ev.now _)
  rw [if_neg g]
  rw [if_neg g] at hg
  by_cases c1 : x.f0 = 1
  · rw [if_pos c1]
    obtain ⟨e, f⟩ := map_is x.f3 cols p
    exact ⟨Ev.congr (fun k => by rw [plan_typer_of.h, hg, Option.bind_some, if_neg (by decide), if_pos c1]) e, f⟩
  rw [if_neg c1]
  by_cases c2 : x.f0 = 2
  · rw [if_pos c2]
    by_cases n : (x.f3.length : Int) = 1
    · rw [if_pos n]
      obtain ⟨e, f⟩ := map_is x.f3 cols p
      have st : ∀ k, plan_typer_of.h k x.f0 x.f1 x.f2 x.f3 x.f4 x.f5 x.f6 x.f7 x.f8 kinds cols p = (plan_mapped.f k x.f3 cols p).bind fun r => (if r.2.1 = 0 then (if 0 < (r.1.length : Int) then (if rd r.1 0 = 0 then ((slices_Clone_int_int.f cols).bind fun t => some (t, 0, 0)) else (some (([] : List Int), 80, p))) else none) else (some (([] : List Int), r.2.1, r.2.2))) := fun k => by
        rw [plan_typer_of.h, hg, Option.bind_some, if_neg (by decide), if_neg c1, if_pos c2, if_pos n]
      by_cases z : (mapP x.f3 cols).2 = 0
      · rw [if_pos z]
        have e2 : atP (mapP x.f3 cols) p = ((mapP x.f3 cols).1, 0, 0) := by unfold atP; rw [if_pos z]
        rw [e2] at e
        have hlen : 0 < ((mapP x.f3 cols).1.length : Int) := by
          have hm : mapP x.f3 cols = mapF cols x.f3 := by unfold mapP; rw [if_neg (by omega), if_neg (by omega)]
          rw [hm] at z ⊢
          rw [mapF_ok cols x.f3 z]; omega
        by_cases y : rd (mapP x.f3 cols).1 0 = 0
        · rw [if_pos y, at_ok]
          exact ⟨Ev.congr st (Ev.bind e (Ev.congr (fun k => by rw [if_pos rfl, if_pos hlen, if_pos y, hcl, Option.bind_some]) (Ev.now _))), few_ok hc⟩
        · rw [if_neg y, at_bad (by decide)]
          exact ⟨Ev.congr st (Ev.bind e (Ev.congr (fun k => by rw [if_pos rfl, if_pos hlen, if_neg y]) (Ev.now _))), few_bad 80 (by decide)⟩
      · rw [if_neg z, at_bad z]
        have e2 : atP (mapP x.f3 cols) p = ([], (mapP x.f3 cols).2, p) := by unfold atP; rw [if_neg z]
        rw [e2] at e
        exact ⟨Ev.congr st (Ev.bind e (Ev.congr (fun k => by rw [if_neg z]) (Ev.now _))), few_bad _ f.2.1⟩
    · rw [if_neg n, at_bad (by decide)]
      exact ⟨Ev.congr (fun k => by rw [plan_typer_of.h, hg, Option.bind_some, if_neg (by decide), if_neg c1, if_pos c2, if_neg n]) (Ev.now _), few_bad 1 (by decide)⟩
  rw [if_neg c2]
  by_cases c3 : x.f0 = 3
  · rw [if_pos c3]
    obtain ⟨e, f⟩ := proj_is x.f4 cols p (by omega)
    exact ⟨Ev.congr (fun k => by rw [plan_typer_of.h, hg, Option.bind_some, if_neg (by decide), if_neg c1, if_neg c2, if_pos c3]) e, f⟩
  rw [if_neg c3]
  by_cases c4 : x.f0 = 4
  · rw [if_pos c4]
    have st : ∀ k, plan_typer_of.h k x.f0 x.f1 x.f2 x.f3 x.f4 x.f5 x.f6 x.f7 x.f8 kinds cols p = plan_typer_of.l0 k x.f1 kinds cols p ((0 : Nat) : Int) := fun k => by
      rw [plan_typer_of.h, hg, Option.bind_some, if_neg (by decide), if_neg c1, if_neg c2, if_neg c3, if_pos c4]; rfl
    by_cases a : x.f1.all (fun i => decide (rd_L3 kinds i = cols)) = true
    · rw [if_pos a] at hr ⊢
      rw [at_ok]
      exact ⟨Ev.congr st hr, few_ok hc⟩
    · rw [if_neg a] at hr ⊢
      rw [at_bad (by decide)]
      exact ⟨Ev.congr st hr, few_bad 80 (by decide)⟩
  rw [if_neg c4]
  by_cases c7 : x.f0 = 7
  · rw [if_pos c7]
    obtain ⟨e, f⟩ := bucket_is x.f0 x.f1 x.f2 x.f3 x.f4 x.f5 x.f6 x.f7 x.f8 cols p (by omega)
    exact ⟨Ev.congr (fun k => by rw [plan_typer_of.h, hg, Option.bind_some, if_neg (by decide), if_neg c1, if_neg c2, if_neg c3, if_neg c4, if_pos c7]) e, f⟩
  rw [if_neg c7]
  by_cases c15 : x.f0 = 15
  · rw [if_pos c15]
    obtain ⟨e, f⟩ := join_is x.f5 cols (rd_L3 kinds (rd x.f1 1)) p (by omega) (by omega)
    have := h15 c15
    exact ⟨Ev.congr (fun k => by rw [plan_typer_of.h, hg, Option.bind_some, if_neg (by decide), if_neg c1, if_neg c2, if_neg c3, if_neg c4, if_neg c7, if_pos c15, if_pos (by omega), if_pos (i1 c15).1, if_pos (i1 c15).2]) e, f⟩
  rw [if_neg c15]
  by_cases c8 : x.f0 = 8
  · rw [if_pos c8]
    have st : ∀ k, plan_typer_of.h k x.f0 x.f1 x.f2 x.f3 x.f4 x.f5 x.f6 x.f7 x.f8 kinds cols p = (if decide (0 ≤ x.f5 ∧ x.f5 ≤ (cols.length : Int)) = true then some (cols, 0, 0) else some (([] : List Int), 9, p)) := fun k => by
      rw [plan_typer_of.h, hg, Option.bind_some, if_neg (by decide), if_neg c1, if_neg c2, if_neg c3, if_neg c4, if_neg c7, if_neg c15, if_pos c8, between_is, Option.bind_some, hcl, Option.bind_some]
    by_cases b : 0 ≤ x.f5 ∧ x.f5 ≤ (cols.length : Int)
    · rw [if_pos b, at_ok]
      exact ⟨Ev.congr (fun k => (st k).trans (if_pos (decide_eq_true b))) (Ev.now _), few_ok hc⟩
    · rw [if_neg b, at_bad (by decide)]
      exact ⟨Ev.congr (fun k => (st k).trans (if_neg (by simp only [decide_eq_true_eq]; exact b))) (Ev.now _), few_bad 9 (by decide)⟩
  · rw [if_neg c8, at_ok]
    exact ⟨Ev.congr (fun k => by rw [plan_typer_of.h, hg, Option.bind_some, if_neg (by decide), if_neg c1, if_neg c2, if_neg c3, if_neg c4, if_neg c7, if_neg c15, if_neg c8, hcl, Option.bind_some]) (Ev.now _), few_ok hc⟩
theorem of_is (nodes : List S42) (kinds : List (List Int)) (p : Nat) (hp : p < nodes.length) (h1 : (rd_T42 nodes (p : Int)).f0 ≠ 0 → 0 < (rd_T42 nodes (p : Int)).f1.length) (h15 : (rd_T42 nodes (p : Int)).f0 = 15 → 1 < (rd_T42 nodes (p : Int)).f1.length) (hl : (rd_T42 nodes (p : Int)).f1.length ≤ 100) (hins : ∀ i ∈ (rd_T42 nodes (p : Int)).f1, 0 ≤ i ∧ i < (kinds.length : Int)) (hk : ∀ i : Int, (rd_L3 kinds i).length ≤ 16) :
    Ev (fun k => plan_typer_of.f k nodes kinds (p : Int)) (atP (ofP (rd_T42 nodes (p : Int)) kinds) (p : Int)) ∧ Few (ofP (rd_T42 nodes (p : Int)) kinds) := by
  generalize hx : rd_T42 nodes (p : Int) = x at h1 h15 hl hins ⊢
  by_cases z : x.f0 = 0
  · obtain ⟨e, f⟩ := input_is x.f2 (p : Int)
    have ee : ofP x kinds = inputP x.f2 := by unfold ofP; rw [if_pos z]
    rw [ee]
    exact ⟨Ev.congr (fun k => by rw [plan_typer_of.f, if_pos (by omega), if_pos (by omega), hx, plan_typer_of.g, if_pos z]) e, f⟩
  · obtain ⟨e, f⟩ := ofh_is x kinds (p : Int) z (h1 z) h15 hl hins hk
    have h0 := h1 z
    have hr := rd_get h0
    rw [show ((0 : Nat) : Int) = 0 from rfl] at hr
    have hin := hins _ (List.getElem_mem h0)
    rw [← hr] at hin
    exact ⟨Ev.congr (fun k => by rw [plan_typer_of.f, if_pos (by omega), if_pos (by omega), hx, plan_typer_of.g, if_neg z, if_pos (by omega), if_pos hin.1, if_pos hin.2]) e, f⟩
/-- The ins of a node. -/
def insOf (nodes : List S42) (a : Int) : List Int := (rd_T42 nodes a).f1
/-- One comes from a node tg another one, by ins, in one step or more. -/
inductive Path (nodes : List S42) : Int → Int → Prop
  | one {a b : Int} : b ∈ insOf nodes a → Path nodes a b
  | more {a b c : Int} : Path nodes a b → c ∈ insOf nodes b → Path nodes a c
theorem Path.first {nodes : List S42} {a b c : Int} (h : b ∈ insOf nodes a) (k : Path nodes b c) : Path nodes a c := by
  induction k with
  | one h2 => exact .more (.one h) h2
  | more _ h2 ih => exact .more ih h2
def unseen (l : List Bool) : Nat := (l.filter (fun b => !b)).length
theorem unseen_set : ∀ (l : List Bool) (i : Nat) (h : i < l.length), l[i] = false → unseen (l.set i true) + 1 = unseen l
  | b :: l, 0, _, h => by
    have : b = false := h
    subst this
    simp [unseen]
  | b :: l, i + 1, h, e => by
    have h2 : i < l.length := by simpa using h
    have ih := unseen_set l i h2 (by simpa using e)
    unfold unseen at ih ⊢
    cases b <;> simp at ih ⊢ <;> omega
theorem unseen_new (n : Nat) : unseen (List.replicate n false) = n := by
  induction n with
  | zero => rfl
  | succ n ih => unfold unseen at ih ⊢; rw [List.replicate_succ]; simp
theorem rdOf_set {l : List Bool} {i c : Int} (hi0 : 0 ≤ i) (hi : i < (l.length : Int)) (hc : 0 ≤ c) : rdOf false (l.set i.toNat true) c = if c = i then true else rdOf false l c := by
  unfold rdOf
  rw [List.getD_eq_getElem?_getD, List.getD_eq_getElem?_getD]
  by_cases h : c = i
  · subst h
    rw [if_pos rfl, List.getElem?_set_self (by omega)]; rfl
  · rw [if_neg h, List.getElem?_set_ne (by omega)]
theorem rdOf_get {l : List Bool} {i : Int} (hi0 : 0 ≤ i) (hi : i < (l.length : Int)) : rdOf false l i = l[i.toNat]'(by omega) := by
  unfold rdOf
  rw [List.getD_eq_getElem?_getD, List.getElem?_eq_getElem (by omega)]; rfl
/-- What shape has shown. -/
structure Sound (nodes : List S42) : Prop where
  few : nodes.length ≤ 70
  len : ∀ a : Int, 0 ≤ a → a < (nodes.length : Int) → (insOf nodes a).length ≤ 20
  inr : ∀ a : Int, 0 ≤ a → a < (nodes.length : Int) → ∀ c ∈ insOf nodes a, 0 ≤ c ∧ c < (nodes.length : Int)
theorem reach_nil (nodes : List S42) (hs : Sound nodes) (outs : List Int) (room fr tg : Int) (hf0 : 0 ≤ fr) (hf1 : fr < (nodes.length : Int)) (seen : List Bool)
    (hseen : ∀ c : Int, 0 ≤ c → c < (nodes.length : Int) → rdOf false seen c = true → c ≠ tg ∧ ∀ d ∈ insOf nodes c, d ∈ ([] : List Int) ∨ rdOf false seen d = true)
    (hfr : ∀ c ∈ insOf nodes fr, c ∈ ([] : List Int) ∨ rdOf false seen c = true) :
    ∃ b, Ev (fun k => plan_reaches.l0 k tg seen [] nodes outs room) b ∧ (b = true ↔ Path nodes fr tg) := by
  refine ⟨false, Ev.step (fun k => by rw [plan_reaches.l0, if_neg (by simp)]) (Ev.now _), ⟨fun h => (by cases h), fun h => ?_⟩⟩
  have all : ∀ {a c : Int}, Path nodes a c → a = fr → 0 ≤ c ∧ c < (nodes.length : Int) ∧ rdOf false seen c = true := fun {a c} hp => by
    induction hp with
    | one h2 =>
      intro e; subst e
      have := hs.inr _ hf0 hf1 _ h2
      rcases hfr _ h2 with h3 | h3
      · cases h3
      · exact ⟨this.1, this.2, h3⟩
    | more _ h2 ih =>
      intro e
      have i := ih e
      have := hs.inr _ i.1 i.2.1 _ h2
      rcases (hseen _ i.1 i.2.1 i.2.2).2 _ h2 with h3 | h3
      · cases h3
      · exact ⟨this.1, this.2, h3⟩
  have i := all h rfl
  exact absurd rfl (hseen _ i.1 i.2.1 i.2.2).1
theorem reach_loop (nodes : List S42) (hs : Sound nodes) (outs : List Int) (room fr tg : Int) (hf0 : 0 ≤ fr) (hf1 : fr < (nodes.length : Int)) (m : Nat) : ∀ (seen : List Bool) (row : List Int), 21 * unseen seen + row.length ≤ m → m ≤ 3000 → seen.length = nodes.length →
    (∀ y ∈ row, Path nodes fr y ∧ 0 ≤ y ∧ y < (nodes.length : Int)) →
    (∀ c : Int, 0 ≤ c → c < (nodes.length : Int) → rdOf false seen c = true → c ≠ tg ∧ ∀ d ∈ insOf nodes c, d ∈ row ∨ rdOf false seen d = true) →
    (∀ c ∈ insOf nodes fr, c ∈ row ∨ rdOf false seen c = true) →
    ∃ b, Ev (fun k => plan_reaches.l0 k tg seen row nodes outs room) b ∧ (b = true ↔ Path nodes fr tg) := by
  induction m with
  | zero =>
    intro seen row hm _ hl hrow hseen hfr
    have hr : row = [] := List.eq_nil_of_length_eq_zero (by omega)
    subst hr
    exact reach_nil nodes hs outs room fr tg hf0 hf1 seen hseen hfr
  | succ m ih =>
    intro seen row hm hm3 hl hrow hseen hfr
    cases row with
    | nil => exact reach_nil nodes hs outs room fr tg hf0 hf1 seen hseen hfr
    | cons y rest =>
      have hy := hrow y List.mem_cons_self
      have hll : (y :: rest).length = rest.length + 1 := rfl
      have hlen : ((y :: rest).length : Int) > 0 := by omega
      have h1 : 1 ≤ ((y :: rest).length : Int) := by omega
      have st : ∀ k, plan_reaches.l0 (k + 1) tg seen (y :: rest) nodes outs room = if y = tg then some true else if rdOf false seen y = true then plan_reaches.l0 k tg seen rest nodes outs room else if rest.length + (insOf nodes y).length < 17592186044416 then plan_reaches.l0 k tg (seen.set y.toNat true) (rest ++ insOf nodes y) nodes outs room else none := fun k => by
        rw [plan_reaches.l0, if_pos hlen, if_pos hlen, if_pos h1, Option.bind_some]
        show (if y = tg then _ else (if 0 ≤ y then _ else _)) = _
        by_cases e : y = tg
        · rw [if_pos e, if_pos e]
        · rw [if_neg e, if_neg e, if_pos hy.2.1]
          show (if y < (seen.length : Int) then _ else _) = _
          rw [if_pos (by omega)]
          by_cases s : rdOf false seen y = true
          · rw [if_pos s]; exact if_pos s
          · rw [if_neg s]
            refine (if_neg s).trans ?_
            exact if_pos hy.2.2
      by_cases e : y = tg
      · subst e
        exact ⟨true, Ev.step (fun k => by rw [st, if_pos rfl]) (Ev.now _), ⟨fun _ => hy.1, fun _ => rfl⟩⟩
      · by_cases s : rdOf false seen y = true
        · obtain ⟨b, hb, hb2⟩ := ih seen rest (by simp at hm; omega) (by omega) hl (fun z hz => hrow z (List.mem_cons_of_mem _ hz))
            (fun c c0 c1 cs => ⟨(hseen c c0 c1 cs).1, fun d hd => by
              rcases (hseen c c0 c1 cs).2 d hd with h | h
              · rcases List.mem_cons.1 h with rfl | h
                · exact .inr s
                · exact .inl h
              · exact .inr h⟩)
            (fun c hc => by
              rcases hfr c hc with h | h
              · rcases List.mem_cons.1 h with rfl | h
                · exact .inr s
                · exact .inl h
              · exact .inr h)
          exact ⟨b, Ev.step (fun k => by rw [st, if_neg e, if_pos s]) hb, hb2⟩
        · have hyl : y < (seen.length : Int) := by omega
          have hins := hs.len y hy.2.1 hy.2.2
          have sf : rdOf false seen y = false := Bool.eq_false_iff.mpr s
          have hu := unseen_set seen y.toNat (by omega) (by rw [← rdOf_get hy.2.1 hyl]; exact sf)
          have rs : ∀ c : Int, 0 ≤ c → rdOf false (seen.set y.toNat true) c = if c = y then true else rdOf false seen c := fun c hc => rdOf_set hy.2.1 hyl hc
          have grow : ∀ d : Int, 0 ≤ d → (d ∈ y :: rest ∨ rdOf false seen d = true) → (d ∈ rest ++ insOf nodes y ∨ rdOf false (seen.set y.toNat true) d = true) := fun d d0 h => by
            rcases h with h | h
            · rcases List.mem_cons.1 h with rfl | h
              · exact .inr (by rw [rs _ d0, if_pos rfl])
              · exact .inl (List.mem_append.2 (.inl h))
            · refine .inr ?_
              rw [rs _ d0]; split
              · rfl
              · exact h
          obtain ⟨b, hb, hb2⟩ := ih (seen.set y.toNat true) (rest ++ insOf nodes y) (by rw [List.length_append]; simp at hm; omega) (by omega) (by rw [List.length_set]; exact hl)
            (fun z hz => by
              rcases List.mem_append.1 hz with h | h
              · exact hrow z (List.mem_cons_of_mem _ h)
              · exact ⟨.more hy.1 h, hs.inr y hy.2.1 hy.2.2 z h⟩)
            (fun c c0 c1 cs => by
              rw [rs c c0] at cs
              by_cases cy : c = y
              · subst cy
                exact ⟨e, fun d hd => .inl (List.mem_append.2 (.inr hd))⟩
              · rw [if_neg cy] at cs
                exact ⟨(hseen c c0 c1 cs).1, fun d hd => grow d (hs.inr c c0 c1 d hd).1 ((hseen c c0 c1 cs).2 d hd)⟩)
            (fun c hc => grow c (hs.inr fr hf0 hf1 c hc).1 (hfr c hc))
          exact ⟨b, Ev.step (fun k => by rw [st, if_neg e, if_neg s, if_pos (by simp at hm; omega)]) hb, hb2⟩
theorem reach_is (nodes : List S42) (hs : Sound nodes) (outs : List Int) (room : Int) (i : Int) (h0 : 0 ≤ i) (h1 : i < (nodes.length : Int)) : ∃ b, Ev (fun k => plan_reaches.f k nodes outs room i i) b ∧ (b = true ↔ Path nodes i i) := by
  have hn := hs.few
  have hl := hs.len i h0 h1
  obtain ⟨b, hb, hb2⟩ := reach_loop nodes hs outs room i i h0 h1 (21 * nodes.length + 20) (List.replicate nodes.length false) (insOf nodes i) (by rw [unseen_new]; omega) (by omega) (by simp)
    (fun y hy => ⟨.one hy, hs.inr i h0 h1 y hy⟩)
    (fun c c0 c1 cs => by
      unfold rdOf at cs
      rw [List.getD_eq_getElem?_getD, List.getElem?_replicate, if_pos (by omega)] at cs
      cases cs)
    (fun c hc => .inl hc)
  refine ⟨b, ?_, hb2⟩
  refine Ev.congr (fun k => ?_) hb
  rw [plan_reaches.f, if_pos (by omega), if_pos (by omega), if_pos h0, if_pos h1]
  show (slices_Clone_int_int.f (insOf nodes i)).bind _ = _
  rw [clone_is _ (by omega), Option.bind_some, Int.toNat_natCast]
theorem order0_is (nodes : List S42) (hs : Sound nodes) (outs : List Int) (room : Int) (d : Nat) : ∀ (i : Nat), i ≤ nodes.length → nodes.length - i = d →
    ∃ (b : Bool) (a : Nat), Ev (fun k => plan_order.l0 k nodes outs room (i : Int)) (b, (a : Int)) ∧ (b = true → i ≤ a ∧ a < nodes.length ∧ Path nodes (a : Int) (a : Int) ∧ ∀ j : Nat, i ≤ j → j < a → ¬ Path nodes (j : Int) (j : Int)) ∧ (b = false → ∀ j : Nat, i ≤ j → j < nodes.length → ¬ Path nodes (j : Int) (j : Int)) := by
  have hn := hs.few
  induction d with
  | zero =>
    intro i hi hd
    exact ⟨false, 0, Ev.step (fun k => by rw [plan_order.l0, if_neg (by omega)]; rfl) (Ev.now _), fun h => (by cases h), fun _ j h1 h2 => by omega⟩
  | succ d ih =>
    intro i hi hd
    obtain ⟨b, hb, hb2⟩ := reach_is nodes hs outs room (i : Int) (by omega) (by omega)
    have st : ∀ k, plan_order.l0 (k + 1) nodes outs room (i : Int) = (plan_reaches.f k nodes outs room (i : Int) (i : Int)).bind fun t => (if t = true then some (true, (i : Int)) else (plan_order.l0 k nodes outs room ((i + 1 : Nat) : Int))) := fun k => by
      rw [plan_order.l0, if_pos (by omega), wnext i (by omega)]
    cases b with
    | true => exact ⟨true, i, Ev.step st (Ev.bind hb (Ev.congr (fun k => if_pos rfl) (Ev.now _))), fun _ => ⟨Nat.le_refl _, by omega, hb2.1 rfl, fun j h1 h2 => by omega⟩, fun h => (by cases h)⟩
    | false =>
      have np : ¬ Path nodes (i : Int) (i : Int) := fun h => by have := hb2.2 h; cases this
      obtain ⟨b2, a, e, t1, t2⟩ := ih (i + 1) (by omega) (by omega)
      refine ⟨b2, a, Ev.step st (Ev.bind hb (Ev.congr (fun k => if_neg (by decide)) e)), fun h => ?_, fun h j h1 h2 => ?_⟩
      · obtain ⟨h1, h2, h3, h4⟩ := t1 h
        refine ⟨by omega, h2, h3, fun j h5 h6 => ?_⟩
        rcases Nat.eq_or_lt_of_le h5 with rfl | h7
        · exact np
        · exact h4 j h7 h6
      · rcases Nat.eq_or_lt_of_le h1 with rfl | h7
        · exact np
        · exact t2 h j h7 h2
/-- May a node be the next one? -/
def readyP (nodes : List S42) (done : List Bool) (j : Int) : Bool := !(rdOf false done j) && !((insOf nodes j).any (fun x => !(rdOf false done x)))
def nextF (nodes : List S42) (done : List Bool) : Nat → Nat → Int
  | _, 0 => -1
  | j, m + 1 => if readyP nodes done (j : Int) = true then (j : Int) else nextF nodes done (j + 1) m
theorem idx_any (p : Int → Bool) (l : List Int) : decide (0 ≤ idx p l) = l.any p := by
  unfold idx
  cases h : l.findIdx? p with
  | none =>
    rw [List.findIdx?_eq_none_iff] at h
    have : l.any p = false := by rw [List.any_eq_false]; intro x hx; simpa using h x hx
    rw [this]; decide
  | some i =>
    rw [List.findIdx?_eq_some_iff_getElem] at h
    obtain ⟨hi, h1, _⟩ := h
    have : l.any p = true := List.any_eq_true.2 ⟨l[i], List.getElem_mem hi, h1⟩
    rw [this]; simp
theorem ndone_is (done : List Bool) (l : List Int) (h : ∀ x ∈ l, 0 ≤ x ∧ x < (done.length : Int)) : plan_ndone done l = some (l.any (fun x => !(rdOf false done x))) := by
  unfold plan_ndone
  rw [if_pos (List.all_eq_true.2 fun x hx => by simpa using h x hx), idx_any]
theorem next_held (nodes : List S42) (hn : nodes.length ≤ 70) (done : List Bool) (i6 : Int) (h6 : 0 ≤ i6) (d : Nat) : ∀ (j : Nat), j ≤ nodes.length → nodes.length - j = d → Ev (fun k => plan_order.l2 k nodes done i6 (j : Int)) i6 := by
  induction d with
  | zero =>
    intro j hj hd
    exact Ev.step (fun k => by rw [plan_order.l2, if_neg (by omega)]) (Ev.now _)
  | succ d ih =>
    intro j hj hd
    exact Ev.step (fun k => by rw [plan_order.l2, if_pos (by omega), if_pos (by omega), if_neg (by omega), wnext j (by omega)]) (ih (j + 1) (by omega) (by omega))
theorem next_is (nodes : List S42) (hs : Sound nodes) (done : List Bool) (hl : done.length = nodes.length) (d : Nat) : ∀ (j : Nat), j ≤ nodes.length → nodes.length - j = d → Ev (fun k => plan_order.l2 k nodes done (-1) (j : Int)) (nextF nodes done j d) := by
  have hn := hs.few
  induction d with
  | zero =>
    intro j hj hd
    exact Ev.step (fun k => by rw [plan_order.l2, if_neg (by omega)]; rfl) (Ev.now _)
  | succ d ih =>
    intro j hj hd
    have nd := ndone_is done (insOf nodes (j : Int)) (fun x hx => by have := hs.inr (j : Int) (by omega) (by omega) x hx; omega)
    rw [nextF]
    unfold readyP
    by_cases a : rdOf false done (j : Int) = true
    · rw [if_neg (by rw [a]; simp)]
      exact Ev.step (fun k => by rw [plan_order.l2, if_pos (by omega), if_pos (by omega), if_pos (by omega), if_pos (by omega), if_pos a, wnext j (by omega)]) (ih (j + 1) (by omega) (by omega))
    · have af : rdOf false done (j : Int) = false := Bool.eq_false_iff.mpr a
      have st : ∀ k, plan_order.l2 (k + 1) nodes done (-1) (j : Int) = if (insOf nodes (j : Int)).any (fun x => !(rdOf false done x)) = true then plan_order.l2 k nodes done (-1) ((j + 1 : Nat) : Int) else plan_order.l2 k nodes done (j : Int) ((j + 1 : Nat) : Int) := fun k => by
        rw [plan_order.l2, if_pos (by omega), if_pos (by omega), if_pos (by omega), if_pos (by omega), if_neg a, wnext j (by omega)]
        show (plan_ndone done (insOf nodes (j : Int))).bind _ = _
        rw [nd, Option.bind_some]
      by_cases b : (insOf nodes (j : Int)).any (fun x => !(rdOf false done x)) = true
      · rw [if_neg (by rw [b]; simp)]
        exact Ev.step (fun k => by rw [st, if_pos b]) (ih (j + 1) (by omega) (by omega))
      · rw [if_pos (by rw [af, Bool.eq_false_iff.mpr b]; rfl)]
        exact Ev.step (fun k => by rw [st, if_neg b]) (next_held nodes hn done (j : Int) (by omega) d (j + 1) (by omega) (by omega))
theorem next_found (nodes : List S42) (done : List Bool) (d : Nat) : ∀ (j r : Nat), j ≤ r → r < j + d → readyP nodes done (r : Int) = true → ∃ i : Nat, nextF nodes done j d = (i : Int) ∧ j ≤ i ∧ i < j + d ∧ readyP nodes done (i : Int) = true := by
  induction d with
  | zero => intro j r h1 h2; omega
  | succ d ih =>
    intro j r h1 h2 h3
    rw [nextF]
    by_cases h : readyP nodes done (j : Int) = true
    · rw [if_pos h]; exact ⟨j, rfl, Nat.le_refl _, by omega, h⟩
    · rw [if_neg h]
      have : r ≠ j := fun e => h (by rw [← e]; exact h3)
      obtain ⟨i, e1, e2, e3, e4⟩ := ih (j + 1) r (by omega) (by omega) h3
      exact ⟨i, e1, by omega, by omega, e4⟩
/-- How many nodes one comes to. -/
noncomputable def rank (nodes : List S42) (a : Int) : Nat := ((List.range nodes.length).filter (fun j : Nat => @decide (Path nodes a (j : Int)) (Classical.propDecidable _))).length
theorem filter_lt {p q : Nat → Bool} : ∀ (l : List Nat), (∀ x, p x = true → q x = true) → (∃ x ∈ l, q x = true ∧ p x = false) → (l.filter p).length < (l.filter q).length
  | [], _, ⟨_, h, _⟩ => by cases h
  | x :: l, hpq, h => by
    have le : ∀ (l : List Nat), (l.filter p).length ≤ (l.filter q).length := fun l => by
      induction l with
      | nil => simp
      | cons y l ih =>
        cases hp : p y
        · cases hq : q y <;> simp [hp, hq] <;> omega
        · simp [hp, hpq y hp]; omega
    obtain ⟨y, hy, hq, hp⟩ := h
    rcases List.mem_cons.1 hy with rfl | hy
    · have := le l
      simp [hq, hp]; omega
    · have ih := filter_lt l hpq ⟨y, hy, hq, hp⟩
      cases hpx : p x
      · cases hqx : q x <;> simp [hpx, hqx] <;> omega
      · simp [hpx, hpq x hpx]; omega
theorem rank_lt (nodes : List S42) (a b : Int) (h : b ∈ insOf nodes a) (h0 : 0 ≤ b) (h1 : b < (nodes.length : Int)) (hb : ¬ Path nodes b b) : rank nodes b < rank nodes a := by
  unfold rank
  refine filter_lt _ (fun x hx => ?_) ⟨b.toNat, List.mem_range.2 (by omega), ?_, ?_⟩
  · exact @decide_eq_true _ (Classical.propDecidable _) (Path.first h (@of_decide_eq_true _ (Classical.propDecidable _) hx))
  · refine @decide_eq_true _ (Classical.propDecidable _) ?_
    rw [Int.toNat_of_nonneg h0]
    exact .one h
  · refine @decide_eq_false _ (Classical.propDecidable _) ?_
    rw [Int.toNat_of_nonneg h0]
    exact hb
theorem ready_some (nodes : List S42) (hs : Sound nodes) (done : List Bool) (hc : ∀ j : Nat, j < nodes.length → ¬ Path nodes (j : Int) (j : Int)) (m : Nat) : ∀ (a : Int), 0 ≤ a → a < (nodes.length : Int) → rank nodes a ≤ m → rdOf false done a = false → ∃ r : Nat, r < nodes.length ∧ readyP nodes done (r : Int) = true := by
  induction m with
  | zero =>
    intro a a0 a1 hr hd
    refine ⟨a.toNat, by omega, ?_⟩
    rw [Int.toNat_of_nonneg a0]
    unfold readyP
    have : (insOf nodes a).any (fun x => !(rdOf false done x)) = false := by
      rw [List.any_eq_false]
      intro x hx
      have hin := hs.inr a a0 a1 x hx
      have := rank_lt nodes a x hx hin.1 hin.2 (by have := hc x.toNat (by omega); rwa [Int.toNat_of_nonneg hin.1] at this)
      omega
    rw [hd, this]; rfl
  | succ m ih =>
    intro a a0 a1 hr hd
    by_cases b : (insOf nodes a).any (fun x => !(rdOf false done x)) = true
    · obtain ⟨x, hx, hx2⟩ := List.any_eq_true.1 b
      have hin := hs.inr a a0 a1 x hx
      have := rank_lt nodes a x hx hin.1 hin.2 (by have := hc x.toNat (by omega); rwa [Int.toNat_of_nonneg hin.1] at this)
      exact ih x hin.1 hin.2 (by omega) (by simpa using hx2)
    · refine ⟨a.toNat, by omega, ?_⟩
      rw [Int.toNat_of_nonneg a0]
      unfold readyP
      rw [hd, Bool.eq_false_iff.mpr b]; rfl
/-- The order. -/
def orderF (nodes : List S42) : Nat → List Bool → List Int
  | 0, _ => []
  | m + 1, done => nextF nodes done 0 nodes.length :: orderF nodes m (done.set (nextF nodes done 0 nodes.length).toNat true)
/-- Each comes once, behind its ins. -/
def Orderly (nodes : List S42) : List Bool → List Int → Prop
  | _, [] => True
  | done, i :: l => 0 ≤ i ∧ i < (nodes.length : Int) ∧ rdOf false done i = false ∧ (∀ c ∈ insOf nodes i, rdOf false done c = true) ∧ Orderly nodes (done.set i.toNat true) l
theorem unseen_pos : ∀ (l : List Bool), 0 < unseen l → ∃ i : Nat, i < l.length ∧ rdOf false l (i : Int) = false
  | [], h => by simp [unseen] at h
  | b :: l, h => by
    cases b with
    | false => exact ⟨0, by simp, rfl⟩
    | true =>
      obtain ⟨i, h1, h2⟩ := unseen_pos l (by simpa [unseen] using h)
      refine ⟨i + 1, by simpa using h1, ?_⟩
      unfold rdOf at h2 ⊢
      rw [Int.toNat_natCast] at h2 ⊢
      simpa using h2
theorem orderF_len (nodes : List S42) : ∀ (m : Nat) (done : List Bool), (orderF nodes m done).length = m
  | 0, _ => rfl
  | m + 1, done => by rw [orderF, List.length_cons, orderF_len]
theorem order1_is (nodes : List S42) (hs : Sound nodes) (hc : ∀ j : Nat, j < nodes.length → ¬ Path nodes (j : Int) (j : Int)) (m : Nat) : ∀ (done : List Bool) (out : List Int), out.length + m = nodes.length → done.length = nodes.length → unseen done = m →
    Ev (fun k => plan_order.l1 k nodes done out) (out ++ orderF nodes m done) ∧ Orderly nodes done (orderF nodes m done) := by
  have hn := hs.few
  induction m with
  | zero =>
    intro done out ho hl hu
    rw [orderF, List.append_nil]
    exact ⟨Ev.step (fun k => by rw [plan_order.l1, if_neg (by omega)]) (Ev.now _), trivial⟩
  | succ m ih =>
    intro done out ho hl hu
    obtain ⟨a, ha, hda⟩ := unseen_pos done (by omega)
    obtain ⟨r, hr, hrd⟩ := ready_some nodes hs done hc _ (a : Int) (by omega) (by omega) (Nat.le_refl _) hda
    obtain ⟨i, e1, e2, e3, e4⟩ := next_found nodes done nodes.length 0 r (by omega) (by omega) hrd
    have ne := next_is nodes hs done hl nodes.length 0 (by omega) (by omega)
    rw [orderF]
    rw [e1] at ne ⊢
    unfold readyP at e4
    rw [Bool.and_eq_true] at e4
    have d0 : rdOf false done (i : Int) = false := by simpa using e4.1
    have hu2 := unseen_set done (i : Int).toNat (by omega) (by rw [← rdOf_get (by omega) (by omega)]; exact d0)
    obtain ⟨t1, t2⟩ := ih (done.set (i : Int).toNat true) (out ++ [(i : Int)]) (by rw [List.length_append]; simp; omega) (by rw [List.length_set]; exact hl) (by omega)
    rw [List.append_assoc] at t1
    have st : ∀ k, plan_order.l1 (k + 1) nodes done out = (plan_order.l2 k nodes done (-1) ((0 : Nat) : Int)).bind fun i => (if 0 ≤ i then (if i < (done.length : Int) then (if out.length < 17592186044416 then (plan_order.l1 k nodes (done.set i.toNat true) (out ++ [i])) else none) else none) else none) := fun k => by
      rw [plan_order.l1, if_pos (by omega)]; rfl
    refine ⟨Ev.step st (Ev.bind ne (Ev.congr (fun k => (if_pos (by omega)).trans ((if_pos (by omega)).trans (if_pos (by omega)))) t1)), by omega, by omega, d0, fun c hcin => ?_, t2⟩
    have h5 := e4.2
    simp only [Bool.not_eq_true', List.any_eq_false] at h5
    have := h5 c hcin
    simpa using this
theorem order_is (nodes : List S42) (hs : Sound nodes) (outs : List Int) (room : Int) :
    (∃ a : Nat, a < nodes.length ∧ Path nodes (a : Int) (a : Int) ∧ (∀ j : Nat, j < a → ¬ Path nodes (j : Int) (j : Int)) ∧ Ev (fun k => plan_order.f k nodes outs room) ([], 160, (a : Int))) ∨
    ((∀ j : Nat, j < nodes.length → ¬ Path nodes (j : Int) (j : Int)) ∧ Ev (fun k => plan_order.f k nodes outs room) (orderF nodes nodes.length (List.replicate nodes.length false), 0, 0) ∧ Orderly nodes (List.replicate nodes.length false) (orderF nodes nodes.length (List.replicate nodes.length false))) := by
  have hn := hs.few
  obtain ⟨b, a, e, t1, t2⟩ := order0_is nodes hs outs room nodes.length 0 (by omega) (by omega)
  cases b with
  | true =>
    obtain ⟨h1, h2, h3, h4⟩ := t1 rfl
    exact .inl ⟨a, h2, h3, fun j hj => h4 j (by omega) hj, Ev.bind e (Ev.congr (fun k => if_pos rfl) (Ev.now _))⟩
  | false =>
    have hc : ∀ j : Nat, j < nodes.length → ¬ Path nodes (j : Int) (j : Int) := fun j hj => t2 rfl j (by omega) hj
    obtain ⟨u1, u2⟩ := order1_is nodes hs hc nodes.length (List.replicate nodes.length false) [] (by simp) (by simp) (unseen_new _)
    rw [List.nil_append] at u1
    exact .inr ⟨hc, Ev.bind e (Ev.congr (fun k => (if_neg (by simp)).trans (if_pos (by omega))) (Ev.bind u1 (Ev.now _))), u2⟩
/-- What is asked of a plan, not of its nodes. -/
def wholeP (nodes : List S42) (outs : List Int) (room : Int) : Int :=
  if (nodes.length : Int) > 64 ∨ (outs.length : Int) > 8 then 3
  else if (nodes.length : Int) = 0 ∨ (outs.length : Int) = 0 ∨ ¬ (1 ≤ room ∧ room ≤ 65536) then 1
  else if outs.all (fun o => decide (0 ≤ o ∧ o ≤ (nodes.length : Int) - 1)) = true then 0 else 9
theorem whole_loop (n : Nat) (hn : n ≤ 70) (outs : List Int) (ho : outs.length ≤ 20) (d : Nat) : ∀ (i : Nat), i ≤ outs.length → outs.length - i = d →
    Ev (fun k => plan_whole.l0 k (n : Int) outs (outs.length : Int) (i : Int)) (if (outs.drop i).all (fun o => decide (0 ≤ o ∧ o ≤ (n : Int) - 1)) = true then (0, 0) else (9, (n : Int))) := by
  induction d with
  | zero =>
    intro i hi hd
    rw [List.drop_eq_nil_of_le (by omega), if_pos (show ([] : List Int).all _ = true from rfl)]
    exact Ev.step (fun k => by rw [plan_whole.l0, if_neg (by omega)]) (Ev.now _)
  | succ d ih =>
    intro i hi hd
    have hlt : i < outs.length := by omega
    rw [List.drop_eq_getElem_cons hlt, List.all_cons]
    have hr := rd_get hlt
    have st : ∀ k, plan_whole.l0 (k + 1) (n : Int) outs (outs.length : Int) (i : Int) = if decide (0 ≤ outs[i] ∧ outs[i] ≤ (n : Int) - 1) = true then plan_whole.l0 k (n : Int) outs (outs.length : Int) ((i + 1 : Nat) : Int) else some (9, (n : Int)) := fun k => by
      rw [plan_whole.l0, if_pos (by omega), if_pos (by omega), if_pos (by omega), hr, between_is, wpred _ (by omega), Option.bind_some, wnext i (by omega)]
    cases h : decide (0 ≤ outs[i] ∧ outs[i] ≤ (n : Int) - 1) with
    | true =>
      rw [Bool.true_and]
      exact Ev.step (fun k => by rw [st, if_pos h]) (ih (i + 1) (by omega) (by omega))
    | false =>
      rw [Bool.false_and, if_neg (by decide)]
      exact Ev.step (fun k => by rw [st, h, if_neg (by decide)]) (Ev.now _)
theorem whole_is (nodes : List S42) (outs : List Int) (room : Int) (hn : nodes.length ≤ 70) (ho : outs.length ≤ 20) : Ev (fun k => plan_whole.f k nodes outs room) (if wholeP nodes outs room = 0 then (0, 0) else (wholeP nodes outs room, (nodes.length : Int))) ∧ wholeP nodes outs room ≤ 100 := by
  refine ⟨?_, by unfold wholeP; (repeat' split) <;> decide⟩
  have st : ∀ r, Ev (fun k => plan_whole.j0 k (nodes.length : Int) (decide ((nodes.length : Int) > 64 ∨ (outs.length : Int) > 8)) nodes outs room) r → Ev (fun k => plan_whole.f k nodes outs room) r := fun r hr => by
    by_cases a : (nodes.length : Int) > 64
    · rw [decide_eq_true (.inl a)] at hr
      exact Ev.congr (fun k => by rw [plan_whole.f, if_pos a, decide_eq_true a]) hr
    · rw [show decide ((nodes.length : Int) > 64 ∨ (outs.length : Int) > 8) = decide ((outs.length : Int) > 8) from decide_eq_decide.2 (by omega)] at hr
      exact Ev.congr (fun k => by rw [plan_whole.f, if_neg a]) hr
  refine st _ ?_
  by_cases a : (nodes.length : Int) > 64 ∨ (outs.length : Int) > 8
  · have e : wholeP nodes outs room = 3 := if_pos a
    rw [e, decide_eq_true a, if_neg (by decide)]
    exact Ev.step (fun k => by rw [plan_whole.j0, if_pos rfl]) (Ev.now _)
  rw [decide_eq_false a]
  by_cases b : (nodes.length : Int) = 0
  · have e : wholeP nodes outs room = 1 := (if_neg a).trans (if_pos (.inl b))
    rw [e, if_neg (by decide)]
    exact Ev.step (fun k => by rw [plan_whole.j0, if_neg (by decide), if_pos b]) (Ev.now _)
  by_cases c : (outs.length : Int) = 0
  · have e : wholeP nodes outs room = 1 := (if_neg a).trans (if_pos (.inr (.inl c)))
    rw [e, if_neg (by decide)]
    exact Ev.step (fun k => by rw [plan_whole.j0, if_neg (by decide), if_neg b, if_pos c]) (Ev.now _)
  by_cases e : 1 ≤ room ∧ room ≤ 65536
  · have e1 : wholeP nodes outs room = if outs.all (fun o => decide (0 ≤ o ∧ o ≤ (nodes.length : Int) - 1)) = true then 0 else 9 := (if_neg a).trans (if_neg (fun h => h.elim b (fun h => h.elim c (fun h => h e))))
    have l := whole_loop nodes.length hn outs ho outs.length 0 (by omega) (by omega)
    rw [List.drop_zero] at l
    have s2 : ∀ k, plan_whole.j0 (k + 1) (nodes.length : Int) false nodes outs room = plan_whole.l0 k (nodes.length : Int) outs (outs.length : Int) ((0 : Nat) : Int) := fun k => by
      rw [plan_whole.j0, if_neg (by decide), if_neg b, if_neg c, between_is, Option.bind_some, if_pos (decide_eq_true e)]; rfl
    by_cases f : outs.all (fun o => decide (0 ≤ o ∧ o ≤ (nodes.length : Int) - 1)) = true
    · rw [if_pos f] at l e1
      rw [e1, if_pos rfl]
      exact Ev.step s2 l
    · rw [if_neg f] at l e1
      rw [e1, if_neg (by decide)]
      exact Ev.step s2 l
  · have e1 : wholeP nodes outs room = 1 := (if_neg a).trans (if_pos (.inr (.inr e)))
    rw [e1, if_neg (by decide)]
    exact Ev.step (fun k => by rw [plan_whole.j0, if_neg (by decide), if_neg b, if_neg c, between_is, Option.bind_some, decide_eq_false e, if_neg (by decide)]) (Ev.now _)
/-- How many ins a kind may have. -/
def insOk (kind m : Int) : Bool := if kind = 0 then m == 0 else if kind = 4 then decide (1 ≤ m ∧ m ≤ 8) else if kind = 15 then m == 2 else m == 1
theorem ins_is (kind m : Int) : plan_ins.f kind m = some (insOk kind m) := by
  unfold plan_ins.f insOk
  rw [between_is, Option.bind_some]
  repeat' split
  all_goals rfl
/-- A node's fault. -/
def nodeErr (n : Int) (x : S42) : Int := if ¬ (0 ≤ x.f0 ∧ x.f0 ≤ 15) then 8 else if insOk x.f0 (x.f1.length : Int) = false then 1 else if x.f1.any (fun o => !decide (0 ≤ o ∧ o ≤ n - 1)) = true then 9 else 0
def shapeF (nodes : List S42) : Nat → Nat → Int × Int
  | _, 0 => (0, 0)
  | i, m + 1 => if nodeErr (nodes.length : Int) (rd_T42 nodes (i : Int)) = 0 then shapeF nodes (i + 1) m else (nodeErr (nodes.length : Int) (rd_T42 nodes (i : Int)), (i : Int))
theorem outs_is (l : List Int) (n : Nat) (hn : n ≤ 70) : plan_outs l (n : Int) = l.any (fun o => !decide (0 ≤ o ∧ o ≤ (n : Int) - 1)) := by
  unfold plan_outs
  rw [idx_any]
  congr 1
  funext x
  rw [between_is, wpred _ (by omega)]; rfl
theorem nodeErr_code (n : Int) (x : S42) : nodeErr n x ≤ 100 := by
  unfold nodeErr
  (repeat' split) <;> decide
theorem shape_loop (nodes : List S42) (hn : nodes.length ≤ 70) (d : Nat) : ∀ (i : Nat), i + d = nodes.length → Ev (fun k => plan_shape.l0 k nodes (nodes.length : Int) (i : Int)) (shapeF nodes i d) := by
  induction d with
  | zero =>
    intro i hi
    exact Ev.step (fun k => by rw [plan_shape.l0, if_neg (by omega)]; rfl) (Ev.now _)
  | succ d ih =>
    intro i hi
    rw [shapeF]
    have st : ∀ k, plan_shape.l0 (k + 1) nodes (nodes.length : Int) (i : Int) = if nodeErr (nodes.length : Int) (rd_T42 nodes (i : Int)) = 0 then plan_shape.l0 k nodes (nodes.length : Int) ((i + 1 : Nat) : Int) else some (nodeErr (nodes.length : Int) (rd_T42 nodes (i : Int)), (i : Int)) := fun k => by
      rw [plan_shape.l0, if_pos (by omega), if_pos (by omega), if_pos (by omega), between_is, Option.bind_some, ins_is, Option.bind_some, outs_is _ _ hn, Option.bind_some, wnext i (by omega)]
      by_cases a : 0 ≤ (rd_T42 nodes (i : Int)).f0 ∧ (rd_T42 nodes (i : Int)).f0 ≤ 15
      · rw [if_pos (decide_eq_true a)]
        cases b : insOk (rd_T42 nodes (i : Int)).f0 ((rd_T42 nodes (i : Int)).f1.length : Int) with
        | true =>
          rw [if_pos rfl]
          by_cases c : (rd_T42 nodes (i : Int)).f1.any (fun o => !decide (0 ≤ o ∧ o ≤ (nodes.length : Int) - 1)) = true
          · have e : nodeErr (nodes.length : Int) (rd_T42 nodes (i : Int)) = 9 := (if_neg (not_not_intro a)).trans ((if_neg (by rw [b]; decide)).trans (if_pos c))
            rw [if_pos c, e, if_neg (by decide)]
          · have e : nodeErr (nodes.length : Int) (rd_T42 nodes (i : Int)) = 0 := (if_neg (not_not_intro a)).trans ((if_neg (by rw [b]; decide)).trans (if_neg c))
            rw [if_neg c, e, if_pos rfl]
        | false =>
          have e : nodeErr (nodes.length : Int) (rd_T42 nodes (i : Int)) = 1 := (if_neg (not_not_intro a)).trans (if_pos b)
          rw [if_neg (by decide), e, if_neg (by decide)]
      · have e : nodeErr (nodes.length : Int) (rd_T42 nodes (i : Int)) = 8 := if_pos a
        rw [decide_eq_false a, if_neg (by decide), e, if_neg (by decide)]
    by_cases e : nodeErr (nodes.length : Int) (rd_T42 nodes (i : Int)) = 0
    · rw [if_pos e]
      exact Ev.step (fun k => by rw [st, if_pos e]) (ih (i + 1) (by omega))
    · rw [if_neg e]
      exact Ev.step (fun k => by rw [st, if_neg e]) (Ev.now _)
theorem shapeF_ok (nodes : List S42) : ∀ (d i : Nat), (shapeF nodes i d).1 ≤ 100 ∧ ((shapeF nodes i d).1 = 0 → ∀ j : Nat, i ≤ j → j < i + d → nodeErr (nodes.length : Int) (rd_T42 nodes (j : Int)) = 0)
  | 0, i => ⟨by simp [shapeF], fun _ j h1 h2 => by omega⟩
  | d + 1, i => by
    rw [shapeF]
    by_cases e : nodeErr (nodes.length : Int) (rd_T42 nodes (i : Int)) = 0
    · rw [if_pos e]
      obtain ⟨h1, h2⟩ := shapeF_ok nodes d (i + 1)
      refine ⟨h1, fun h j h3 h4 => ?_⟩
      rcases Nat.eq_or_lt_of_le h3 with rfl | h5
      · exact e
      · exact h2 h j h5 (by omega)
    · rw [if_neg e]
      exact ⟨nodeErr_code _ _, fun h => absurd h e⟩
/-- What nodeErr has shown. -/
theorem err_none {n : Int} {x : S42} (h : nodeErr n x = 0) : insOk x.f0 (x.f1.length : Int) = true ∧ ∀ c ∈ x.f1, 0 ≤ c ∧ c < n := by
  unfold nodeErr at h
  by_cases a : 0 ≤ x.f0 ∧ x.f0 ≤ 15
  · rw [if_neg (not_not_intro a)] at h
    cases b : insOk x.f0 (x.f1.length : Int) with
    | true =>
      rw [b, if_neg (by decide)] at h
      by_cases c : x.f1.any (fun o => !decide (0 ≤ o ∧ o ≤ n - 1)) = true
      · rw [if_pos c] at h; cases h
      · refine ⟨rfl, fun y hy => ?_⟩
        have := Bool.eq_false_iff.mpr c
        rw [List.any_eq_false] at this
        have := this y hy
        simp at this
        omega
    | false => rw [b, if_pos rfl] at h; cases h
  · rw [if_pos a] at h; cases h
theorem ins_few {kind m : Int} (h : insOk kind m = true) : m ≤ 8 ∧ (kind ≠ 0 → 0 < m) ∧ (kind = 15 → 1 < m) := by
  unfold insOk at h
  by_cases a : kind = 0
  · rw [if_pos a] at h; simp at h; omega
  rw [if_neg a] at h
  by_cases b : kind = 4
  · rw [if_pos b] at h; simp at h; omega
  rw [if_neg b] at h
  by_cases c : kind = 15
  · rw [if_pos c] at h; simp at h; omega
  rw [if_neg c] at h; simp at h; omega
theorem sound_of (nodes : List S42) (hn : nodes.length ≤ 70) (h : ∀ j : Nat, j < nodes.length → nodeErr (nodes.length : Int) (rd_T42 nodes (j : Int)) = 0) : Sound nodes := by
  refine ⟨hn, fun a h0 h1 => ?_, fun a h0 h1 c hc => ?_⟩
  · have e := err_none (h a.toNat (by omega))
    rw [Int.toNat_of_nonneg h0] at e
    have := (ins_few e.1).1
    unfold insOf; omega
  · have e := err_none (h a.toNat (by omega))
    rw [Int.toNat_of_nonneg h0] at e
    exact e.2 c hc
noncomputable def allF (nodes : List S42) : List Int → List (List Int) → List (List Int) × Int × Int
  | [], kinds => (kinds, 0, 0)
  | p :: l, kinds => if (ofP (rd_T42 nodes p) kinds).2 = 0 then allF nodes l (kinds.set p.toNat (ofP (rd_T42 nodes p) kinds).1) else ([], (ofP (rd_T42 nodes p) kinds).2, p)
theorem rows_set {kinds : List (List Int)} (h : ∀ i : Int, (rd_L3 kinds i).length ≤ 16) (j : Nat) {r : List Int} (hr : r.length ≤ 16) : ∀ i : Int, (rd_L3 (kinds.set j r) i).length ≤ 16 := fun i => by
  have := h i
  unfold rd_L3 at this ⊢
  rw [List.getD_eq_getElem?_getD] at this ⊢
  rw [List.getElem?_set]
  by_cases e : j = i.toNat
  · rw [if_pos e]
    split
    · exact hr
    · simp
  · rw [if_neg e]; exact this
theorem all_loop (nodes : List S42) (_ : Sound nodes) (hz : ∀ j : Nat, j < nodes.length → nodeErr (nodes.length : Int) (rd_T42 nodes (j : Int)) = 0) (l : List Int) (hl : l.length ≤ 100) (hin : ∀ p ∈ l, 0 ≤ p ∧ p < (nodes.length : Int)) (d : Nat) : ∀ (i : Nat) (kinds : List (List Int)), i ≤ l.length → l.length - i = d → kinds.length = nodes.length → (∀ i : Int, (rd_L3 kinds i).length ≤ 16) →
    Ev (fun k => plan_all.l0 k nodes l kinds (i : Int)) (allF nodes (l.drop i) kinds) ∧ (allF nodes (l.drop i) kinds).2.1 ≤ 100 := by
  induction d with
  | zero =>
    intro i kinds hi hd hk hr
    rw [List.drop_eq_nil_of_le (by omega), allF]
    exact ⟨Ev.step (fun k => by rw [plan_all.l0, if_neg (by omega)]) (Ev.now _), by simp⟩
  | succ d ih =>
    intro i kinds hi hd hk hr
    have hlt : i < l.length := by omega
    rw [List.drop_eq_getElem_cons hlt, allF]
    have hg := rd_get hlt
    obtain ⟨p0, p1⟩ := hin _ (List.getElem_mem hlt)
    generalize l[i] = p at hg p0 p1 ⊢
    obtain ⟨q, rfl⟩ : ∃ q : Nat, p = (q : Int) := ⟨p.toNat, by omega⟩
    have er := err_none (hz q (by omega))
    have fw := ins_few er.1
    obtain ⟨e, f⟩ := of_is nodes kinds q (by omega) (fun h => by have := fw.2.1 h; omega) (fun h => by have := fw.2.2 h; omega) (by have := fw.1; omega) (fun c hc => by have := er.2 c hc; omega) hr
    have st : ∀ k, plan_all.l0 (k + 1) nodes l kinds (i : Int) = (plan_typer_of.f k nodes kinds (q : Int)).bind fun r => (if r.2.1 = 0 then (if 0 ≤ (q : Int) then (if (q : Int) < (kinds.length : Int) then (plan_all.l0 k nodes l (kinds.set (q : Int).toNat r.1) ((i + 1 : Nat) : Int)) else none) else none) else some (([] : List (List Int)), r.2.1, r.2.2)) := fun k => by
      rw [plan_all.l0, if_pos (by omega), if_pos (by omega), hg, wnext i (by omega)]
    by_cases z : (ofP (rd_T42 nodes (q : Int)) kinds).2 = 0
    · rw [if_pos z]
      have e2 : atP (ofP (rd_T42 nodes (q : Int)) kinds) (q : Int) = ((ofP (rd_T42 nodes (q : Int)) kinds).1, 0, 0) := by unfold atP; rw [if_pos z]
      rw [e2] at e
      obtain ⟨t1, t2⟩ := ih (i + 1) (kinds.set (q : Int).toNat (ofP (rd_T42 nodes (q : Int)) kinds).1) (by omega) (by omega) (by rw [List.length_set]; exact hk) (rows_set hr _ f.1)
      exact ⟨Ev.step st (Ev.bind e (Ev.congr (fun k => (if_pos rfl).trans ((if_pos (by omega)).trans (if_pos (by omega)))) t1)), t2⟩
    · rw [if_neg z]
      have e2 : atP (ofP (rd_T42 nodes (q : Int)) kinds) (q : Int) = ([], (ofP (rd_T42 nodes (q : Int)) kinds).2, (q : Int)) := by unfold atP; rw [if_neg z]
      rw [e2] at e
      exact ⟨Ev.step st (Ev.bind e (Ev.congr (fun k => if_neg z) (Ev.now _))), f.2.1⟩
theorem orderly_in (nodes : List S42) : ∀ (l : List Int) (done : List Bool), Orderly nodes done l → ∀ p ∈ l, 0 ≤ p ∧ p < (nodes.length : Int)
  | [], _, _, p, h => by cases h
  | a :: l, done, h, p, hp => by
    rcases List.mem_cons.1 hp with rfl | hp
    · exact ⟨h.1, h.2.1⟩
    · exact orderly_in nodes l _ h.2.2.2.2 p hp
/-- All of a plan: order, kinds, the error and its node. -/
noncomputable def allP (nodes : List S42) (outs : List Int) (room : Int) (loop : Option Nat) : List Int × List (List Int) × Int × Int :=
  if wholeP nodes outs room ≠ 0 then ([], [], wholeP nodes outs room, (nodes.length : Int))
  else if (shapeF nodes 0 nodes.length).1 ≠ 0 then ([], [], (shapeF nodes 0 nodes.length).1, (shapeF nodes 0 nodes.length).2)
  else match loop with
    | some a => ([], [], 160, (a : Int))
    | none =>
      let r := allF nodes (orderF nodes nodes.length (List.replicate nodes.length false)) (List.replicate nodes.length [])
      if r.2.1 = 0 then (orderF nodes nodes.length (List.replicate nodes.length false), r.1, 0, (nodes.length : Int)) else ([], [], r.2.1, r.2.2)
/-- The first node of a loop. -/
def LoopAt (nodes : List S42) : Option Nat → Prop
  | some a => a < nodes.length ∧ Path nodes (a : Int) (a : Int) ∧ ∀ j : Nat, j < a → ¬ Path nodes (j : Int) (j : Int)
  | none => ∀ j : Nat, j < nodes.length → ¬ Path nodes (j : Int) (j : Int)
theorem all_is (nodes : List S42) (outs : List Int) (room : Int) (hn : nodes.length ≤ 70) (ho : outs.length ≤ 20) :
    ∃ loop, Ev (fun k => plan_all.f k nodes outs room) (allP nodes outs room loop) ∧ (wholeP nodes outs room = 0 → (shapeF nodes 0 nodes.length).1 = 0 → LoopAt nodes loop ∧ Sound nodes ∧ (loop = none → Orderly nodes (List.replicate nodes.length false) (orderF nodes nodes.length (List.replicate nodes.length false)))) ∧ ((allP nodes outs room loop).2.2.1 = 160 → ∃ a : Nat, a < nodes.length ∧ Path nodes (a : Int) (a : Int)) := by
  obtain ⟨w1, w2⟩ := whole_is nodes outs room hn ho
  have s1 := shape_loop nodes hn nodes.length 0 (by omega)
  obtain ⟨s2, s3⟩ := shapeF_ok nodes nodes.length 0
  by_cases a : wholeP nodes outs room = 0
  · rw [if_pos a] at w1
    have sh : Ev (fun k => plan_shape.f k nodes outs room) (shapeF nodes 0 nodes.length) := s1
    by_cases b : (shapeF nodes 0 nodes.length).1 = 0
    · have hz := s3 b
      have hz' : ∀ j : Nat, j < nodes.length → nodeErr (nodes.length : Int) (rd_T42 nodes (j : Int)) = 0 := fun j hj => hz j (by omega) (by omega)
      have hs := sound_of nodes hn hz'
      have e2 : shapeF nodes 0 nodes.length = (0, (shapeF nodes 0 nodes.length).2) := by rw [← b]
      rcases order_is nodes hs outs room with ⟨v, v1, v2, v3, v4⟩ | ⟨v1, v2, v3⟩
      · refine ⟨some v, ?_, fun _ _ => ⟨⟨v1, v2, v3⟩, hs, fun h => by cases h⟩, fun _ => ⟨v, v1, v2⟩⟩
        unfold allP
        rw [if_neg (not_not_intro a), if_neg (not_not_intro b)]
        exact Ev.bind w1 (Ev.congr (fun k => if_pos rfl) (Ev.bind sh (Ev.congr (fun k => if_pos b) (Ev.bind v4 (Ev.congr (fun k => if_neg (by simp)) (Ev.now _))))))
      · have hin := orderly_in nodes _ _ v3
        have hl := orderF_len nodes nodes.length (List.replicate nodes.length false)
        have r0 : ∀ i : Int, (rd_L3 (List.replicate nodes.length ([] : List Int)) i).length ≤ 16 := fun i => by
          unfold rd_L3
          rw [List.getD_eq_getElem?_getD, List.getElem?_replicate]
          split <;> simp
        obtain ⟨t1, t2⟩ := all_loop nodes hs hz' _ (by rw [hl]; omega) hin _ 0 (List.replicate nodes.length []) (by omega) rfl (by simp) r0
        rw [List.drop_zero] at t1 t2
        refine ⟨none, ?_, fun _ _ => ⟨v1, hs, fun _ => v3⟩, ?_⟩
        · have big : ∀ r, Ev (fun k => (plan_all.l0 k nodes (orderF nodes nodes.length (List.replicate nodes.length false)) (List.replicate nodes.length []) 0).bind fun r => (if r.2.1 = 0 then some (orderF nodes nodes.length (List.replicate nodes.length false), r.1, (0 : Int), (nodes.length : Int)) else some (([] : List Int), ([] : List (List Int)), r.2.1, r.2.2))) r → Ev (fun k => plan_all.f k nodes outs room) r := fun r hr =>
            Ev.bind w1 (Ev.congr (fun k => if_pos rfl) (Ev.bind sh (Ev.congr (fun k => if_pos b) (Ev.bind v2 (Ev.congr (fun k => (if_pos rfl).trans (if_pos (by omega))) hr)))))
          have key : allP nodes outs room none = if (allF nodes (orderF nodes nodes.length (List.replicate nodes.length false)) (List.replicate nodes.length [])).2.1 = 0 then (orderF nodes nodes.length (List.replicate nodes.length false), (allF nodes (orderF nodes nodes.length (List.replicate nodes.length false)) (List.replicate nodes.length [])).1, 0, (nodes.length : Int)) else ([], [], (allF nodes (orderF nodes nodes.length (List.replicate nodes.length false)) (List.replicate nodes.length [])).2.1, (allF nodes (orderF nodes nodes.length (List.replicate nodes.length false)) (List.replicate nodes.length [])).2.2) := (if_neg (not_not_intro a)).trans (if_neg (not_not_intro b))
          rw [key]
          by_cases z : (allF nodes (orderF nodes nodes.length (List.replicate nodes.length false)) (List.replicate nodes.length [])).2.1 = 0
          · rw [if_pos z]; exact big _ (Ev.bind t1 (Ev.congr (fun k => if_pos z) (Ev.now _)))
          · rw [if_neg z]; exact big _ (Ev.bind t1 (Ev.congr (fun k => if_neg z) (Ev.now _)))
        · intro h
          exfalso
          unfold allP at h
          rw [if_neg (not_not_intro a), if_neg (not_not_intro b)] at h
          simp only at h
          by_cases z : (allF nodes (orderF nodes nodes.length (List.replicate nodes.length false)) (List.replicate nodes.length [])).2.1 = 0
          · rw [if_pos z] at h; cases h
          · rw [if_neg z] at h
            simp only at h
            omega
    · refine ⟨none, ?_, fun _ h => absurd h b, fun h => ?_⟩
      · unfold allP
        rw [if_neg (not_not_intro a), if_pos b]
        exact Ev.bind w1 (Ev.congr (fun k => if_pos rfl) (Ev.bind sh (Ev.congr (fun k => if_neg b) (Ev.now _))))
      · unfold allP at h
        rw [if_neg (not_not_intro a), if_pos b] at h
        simp only at h
        omega
  · rw [if_neg a] at w1
    refine ⟨none, ?_, fun h => absurd h a, fun h => ?_⟩
    · unfold allP
      rw [if_pos a]
      exact Ev.bind w1 (Ev.congr (fun k => if_neg a) (Ev.now _))
    · unfold allP at h
      rw [if_pos a] at h
      simp only at h
      omega
/-- The document's order is the same one. -/
theorem rin_is (a b c : Int) : runnelref16_in.f a b c = some (decide (b ≤ a ∧ a ≤ c)) := by
  unfold runnelref16_in.f
  by_cases h : b ≤ a
  · rw [if_pos h]; congr 1; simp [h]
  · rw [if_neg h]; congr 1; simp; omega
theorem rready_loop (ins : List Int) (done : List Bool) (hin : ∀ c ∈ ins, 0 ≤ c ∧ c < (done.length : Int)) (hl : ins.length ≤ 1000) (d : Nat) : ∀ (j : Nat) (rdy : Bool), j ≤ ins.length → ins.length - j = d →
    Ev (fun k => runnelref16_order.l3 k ins done rdy (j : Int)) (rdy && !((ins.drop j).any (fun x => !(rdOf false done x)))) := by
  induction d with
  | zero =>
    intro j rdy hj hd
    rw [List.drop_eq_nil_of_le (by omega)]
    refine Ev.step (fun k => by rw [runnelref16_order.l3, if_neg (by omega)]) ?_
    cases rdy <;> exact Ev.now _
  | succ d ih =>
    intro j rdy hj hd
    have hlt : j < ins.length := by omega
    rw [List.drop_eq_getElem_cons hlt, List.any_cons]
    have hr := rd_get hlt
    have hc := hin _ (List.getElem_mem hlt)
    cases rdy with
    | true =>
      have e := ih (j + 1) (rdOf false done ins[j]) (by omega) (by omega)
      rw [show (true && !(!(rdOf false done ins[j]) || (ins.drop (j + 1)).any (fun x => !(rdOf false done x)))) = (rdOf false done ins[j] && !((ins.drop (j + 1)).any (fun x => !(rdOf false done x)))) from by cases rdOf false done ins[j] <;> simp]
      exact Ev.step (fun k => by rw [runnelref16_order.l3, if_pos (by omega), if_pos (by omega), if_pos rfl, hr, if_pos hc.1, if_pos hc.2, wnext j (by omega)]) e
    | false =>
      have e := ih (j + 1) false (by omega) (by omega)
      rw [Bool.false_and] at e ⊢
      exact Ev.step (fun k => by rw [runnelref16_order.l3, if_pos (by omega), if_pos (by omega), if_neg (by decide), wnext j (by omega)]) e
/-- The lowest ready one below i, or nx. -/
def lowF (nodes : List S42) (done : List Bool) (nx : Int) : Nat → Int
  | 0 => nx
  | m + 1 => lowF nodes done (if readyP nodes done (m : Int) = true then (m : Int) else nx) m
theorem rlow_loop (nodes : List S42) (hs : Sound nodes) (done : List Bool) (hl : done.length = nodes.length) (m : Nat) : ∀ (nx : Int), m ≤ nodes.length → Ev (fun k => runnelref16_order.l2 k nodes done nx ((m : Int) - 1)) (lowF nodes done nx m) := by
  have hn := hs.few
  induction m with
  | zero =>
    intro nx hm
    exact Ev.step (fun k => by rw [runnelref16_order.l2, if_neg (by omega)]; rfl) (Ev.now _)
  | succ m ih =>
    intro nx hm
    have e1 : ((m + 1 : Nat) : Int) - 1 = (m : Int) := by omega
    rw [e1, lowF]
    have hins := hs.len (m : Int) (by omega) (by omega)
    have r := rready_loop (insOf nodes (m : Int)) done (fun c hc => by have := hs.inr (m : Int) (by omega) (by omega) c hc; omega) (by omega) _ 0 (!(rdOf false done (m : Int))) (by omega) rfl
    rw [List.drop_zero] at r
    have st : ∀ k, runnelref16_order.l2 (k + 1) nodes done nx (m : Int) = (runnelref16_order.l3 k (insOf nodes (m : Int)) done (!(rdOf false done (m : Int))) ((0 : Nat) : Int)).bind fun t => (if t = true then (runnelref16_order.l2 k nodes done (m : Int) ((m : Int) - 1)) else (runnelref16_order.l2 k nodes done nx ((m : Int) - 1))) := fun k => by
      rw [runnelref16_order.l2, if_pos (by omega), if_pos (by omega), if_pos (by omega), w64 (x := (m : Int) - 1) (by omega)]; rfl
    by_cases h : readyP nodes done (m : Int) = true
    · rw [if_pos h]
      exact Ev.step st (Ev.bind r (Ev.congr (fun k => if_pos h) (ih _ (by omega))))
    · rw [if_neg h]
      exact Ev.step st (Ev.bind r (Ev.congr (fun k => if_neg h) (ih _ (by omega))))
theorem low_is (nodes : List S42) (done : List Bool) (n : Nat) : ∀ (m : Nat) (nx : Int), m ≤ n → (nx = nextF nodes done m (n - m)) → lowF nodes done nx m = nextF nodes done 0 n
  | 0, nx, _, h => by rw [lowF, h]; rfl
  | m + 1, nx, hm, h => by
    rw [lowF]
    refine low_is nodes done n m _ (by omega) ?_
    rw [show n - m = (n - (m + 1)) + 1 from by omega, nextF, h]
theorem rnext_is (nodes : List S42) (hs : Sound nodes) (done : List Bool) (hl : done.length = nodes.length) : Ev (fun k => runnelref16_order.l2 k nodes done (-1) ((nodes.length : Int) - 1)) (nextF nodes done 0 nodes.length) := by
  have e := rlow_loop nodes hs done hl nodes.length (-1) (Nat.le_refl _)
  rw [low_is nodes done nodes.length nodes.length (-1) (Nat.le_refl _) (by rw [Nat.sub_self]; rfl)] at e
  exact e
theorem rorder_is (nodes : List S42) (hs : Sound nodes) (hc : ∀ j : Nat, j < nodes.length → ¬ Path nodes (j : Int) (j : Int)) (m : Nat) : ∀ (done : List Bool) (out : List Int), out.length + m = nodes.length → done.length = nodes.length → unseen done = m → Ev (fun k => runnelref16_order.l1 k nodes done out) (out ++ orderF nodes m done) := by
  have hn := hs.few
  induction m with
  | zero =>
    intro done out ho hl hu
    rw [orderF, List.append_nil]
    exact Ev.step (fun k => by rw [runnelref16_order.l1, if_neg (by omega)]) (Ev.now _)
  | succ m ih =>
    intro done out ho hl hu
    obtain ⟨a, ha, hda⟩ := unseen_pos done (by omega)
    obtain ⟨r, hr, hrd⟩ := ready_some nodes hs done hc _ (a : Int) (by omega) (by omega) (Nat.le_refl _) hda
    obtain ⟨i, e1, e2, e3, e4⟩ := next_found nodes done nodes.length 0 r (by omega) (by omega) hrd
    have ne := rnext_is nodes hs done hl
    rw [orderF]
    rw [e1] at ne ⊢
    unfold readyP at e4
    rw [Bool.and_eq_true] at e4
    have d0 : rdOf false done (i : Int) = false := by simpa using e4.1
    have hu2 := unseen_set done (i : Int).toNat (by omega) (by rw [← rdOf_get (by omega) (by omega)]; exact d0)
    have t1 := ih (done.set (i : Int).toNat true) (out ++ [(i : Int)]) (by rw [List.length_append]; simp; omega) (by rw [List.length_set]; exact hl) (by omega)
    rw [List.append_assoc] at t1
    have st : ∀ k, runnelref16_order.l1 (k + 1) nodes done out = (runnelref16_order.l2 k nodes done (-1) ((nodes.length : Int) - 1)).bind fun nx => (if nx < 0 then some out else (if nx < (done.length : Int) then (if out.length < 17592186044416 then (runnelref16_order.l1 k nodes (done.set nx.toNat true) (out ++ [nx])) else none) else none)) := fun k => by
      rw [runnelref16_order.l1, if_pos (by omega), wpred _ (by omega)]
    exact Ev.step st (Ev.bind ne (Ev.congr (fun k => (if_neg (by omega)).trans ((if_pos (by omega)).trans (if_pos (by omega)))) t1))
theorem rorder_all (nodes : List S42) (hs : Sound nodes) (outs : List Int) (room : Int) (hc : ∀ j : Nat, j < nodes.length → ¬ Path nodes (j : Int) (j : Int)) : Ev (fun k => runnelref16_order.f k nodes outs room) (orderF nodes nodes.length (List.replicate nodes.length false)) := by
  have hn := hs.few
  have u1 := rorder_is nodes hs hc nodes.length (List.replicate nodes.length false) [] (by simp) (by simp) (unseen_new _)
  rw [List.nil_append] at u1
  exact Ev.congr (fun k => if_pos (by omega)) u1
theorem rouns_loop (n : Nat) (hn : n ≤ 70) (outs : List Int) (ho : outs.length ≤ 100) (d : Nat) : ∀ (i : Nat), i ≤ outs.length → outs.length - i = d →
    Ev (fun k => runnelref16_shape.l0 k (n : Int) outs (i : Int)) ((outs.drop i).all (fun o => decide (0 ≤ o ∧ o ≤ (n : Int) - 1))) := by
  induction d with
  | zero =>
    intro i hi hd
    rw [List.drop_eq_nil_of_le (by omega)]
    exact Ev.step (fun k => by rw [runnelref16_shape.l0, if_neg (by omega)]; rfl) (Ev.now _)
  | succ d ih =>
    intro i hi hd
    have hlt : i < outs.length := by omega
    rw [List.drop_eq_getElem_cons hlt, List.all_cons]
    have hr := rd_get hlt
    have st : ∀ k, runnelref16_shape.l0 (k + 1) (n : Int) outs (i : Int) = if decide (0 ≤ outs[i] ∧ outs[i] ≤ (n : Int) - 1) = true then runnelref16_shape.l0 k (n : Int) outs ((i + 1 : Nat) : Int) else some false := fun k => by
      rw [runnelref16_shape.l0, if_pos (by omega), if_pos (by omega), hr, rin_is, wpred _ (by omega), Option.bind_some, wnext i (by omega)]
    cases h : decide (0 ≤ outs[i] ∧ outs[i] ≤ (n : Int) - 1) with
    | true =>
      rw [Bool.true_and]
      exact Ev.step (fun k => by rw [st, if_pos h]) (ih (i + 1) (by omega) (by omega))
    | false =>
      rw [Bool.false_and]
      exact Ev.step (fun k => by rw [st, h, if_neg (by decide)]) (Ev.now _)
theorem low_high (kind m : Int) : decide (ref16_low kind ≤ m ∧ m ≤ ref16_high kind) = insOk kind m := by
  unfold ref16_low ref16_high insOk
  by_cases a : kind = 0
  · subst a
    show decide ((0 : Int) ≤ m ∧ m ≤ 0) = (m == 0)
    by_cases h : m = 0
    · subst h; rfl
    · rw [decide_eq_false (by omega), beq_eq_false_iff_ne.mpr h]
  by_cases b : kind = 4
  · subst b
    rfl
  by_cases c : kind = 15
  · subst c
    show decide ((2 : Int) ≤ m ∧ m ≤ 2) = (m == 2)
    by_cases h : m = 2
    · subst h; rfl
    · rw [decide_eq_false (by omega), beq_eq_false_iff_ne.mpr h]
  · simp only [if_neg a, if_neg b, if_neg c]
    by_cases h : m = 1
    · subst h; rfl
    · rw [decide_eq_false (by omega), beq_eq_false_iff_ne.mpr h]
theorem any_all (l : List Int) (p : Int → Bool) : l.any (fun o => !p o) = !(l.all p) := by
  induction l with
  | nil => rfl
  | cons a l ih => rw [List.any_cons, List.all_cons, ih]; cases p a <;> simp
theorem rshape_loop (nodes : List S42) (hn : nodes.length ≤ 70) (hlen : ∀ j : Nat, j < nodes.length → (rd_T42 nodes (j : Int)).f1.length ≤ 20) (d : Nat) : ∀ (i : Nat), i + d = nodes.length → Ev (fun k => runnelref16_shape.l1 k nodes (i : Int)) (if (shapeF nodes i d).1 = 0 then (0, (nodes.length : Int)) else shapeF nodes i d) := by
  induction d with
  | zero =>
    intro i hi
    exact Ev.step (fun k => by rw [runnelref16_shape.l1, if_neg (by omega)]) (by rw [shapeF, if_pos rfl]; exact Ev.now _)
  | succ d ih =>
    intro i hi
    rw [shapeF]
    have l := rouns_loop nodes.length hn (rd_T42 nodes (i : Int)).f1 (by have := hlen i (by omega); omega) _ 0 (by omega) rfl
    rw [List.drop_zero] at l
    have st : ∀ k, runnelref16_shape.l1 (k + 1) nodes (i : Int) = if 0 ≤ (rd_T42 nodes (i : Int)).f0 ∧ (rd_T42 nodes (i : Int)).f0 ≤ 15 then (if insOk (rd_T42 nodes (i : Int)).f0 ((rd_T42 nodes (i : Int)).f1.length : Int) = true then ((runnelref16_shape.l0 k (nodes.length : Int) (rd_T42 nodes (i : Int)).f1 ((0 : Nat) : Int)).bind fun c => (if c = true then (runnelref16_shape.l1 k nodes ((i + 1 : Nat) : Int)) else some (9, (i : Int)))) else some (1, (i : Int))) else some (8, (i : Int)) := fun k => by
      rw [runnelref16_shape.l1, if_pos (by omega), if_pos (by omega), rin_is, Option.bind_some, rin_is, Option.bind_some, low_high, wnext i (by omega)]
      simp only [decide_eq_true_eq]
      rfl
    by_cases a : 0 ≤ (rd_T42 nodes (i : Int)).f0 ∧ (rd_T42 nodes (i : Int)).f0 ≤ 15
    · cases b : insOk (rd_T42 nodes (i : Int)).f0 ((rd_T42 nodes (i : Int)).f1.length : Int) with
      | true =>
        cases c : (rd_T42 nodes (i : Int)).f1.all (fun o => decide (0 ≤ o ∧ o ≤ (nodes.length : Int) - 1)) with
        | true =>
          have e : nodeErr (nodes.length : Int) (rd_T42 nodes (i : Int)) = 0 := (if_neg (not_not_intro a)).trans ((if_neg (by rw [b]; decide)).trans (if_neg (by rw [any_all, c]; decide)))
          rw [c] at l
          rw [if_pos e]
          exact Ev.step (fun k => by rw [st, if_pos a, if_pos b]) (Ev.bind l (Ev.congr (fun k => if_pos rfl) (ih (i + 1) (by omega))))
        | false =>
          have e : nodeErr (nodes.length : Int) (rd_T42 nodes (i : Int)) = 9 := (if_neg (not_not_intro a)).trans ((if_neg (by rw [b]; decide)).trans (if_pos (by rw [any_all, c]; rfl)))
          rw [c] at l
          rw [e, if_neg (show ¬ ((9 : Int) = 0) by decide), if_neg (show ¬ ((9 : Int) = 0) by decide)]
          exact Ev.step (fun k => by rw [st, if_pos a, if_pos b]) (Ev.bind l (Ev.congr (fun k => if_neg (show ¬ (false = true) by decide)) (Ev.now _)))
      | false =>
        have e : nodeErr (nodes.length : Int) (rd_T42 nodes (i : Int)) = 1 := (if_neg (not_not_intro a)).trans (if_pos b)
        rw [e, if_neg (show ¬ ((1 : Int) = 0) by decide), if_neg (show ¬ ((1 : Int) = 0) by decide)]
        exact Ev.step (fun k => by rw [st, if_pos a, if_neg (by rw [b]; decide)]) (Ev.now _)
    · have e : nodeErr (nodes.length : Int) (rd_T42 nodes (i : Int)) = 8 := if_pos a
      rw [e, if_neg (show ¬ ((8 : Int) = 0) by decide), if_neg (show ¬ ((8 : Int) = 0) by decide)]
      exact Ev.step (fun k => by rw [st, if_neg a]) (Ev.now _)
def marks : List Int → List Bool → List Bool
  | [], s => s
  | c :: l, s => marks l (s.set c.toNat true)
theorem marks_len : ∀ (l : List Int) (s : List Bool), (marks l s).length = s.length
  | [], _ => rfl
  | c :: l, s => by rw [marks, marks_len l, List.length_set]
theorem marks_rd : ∀ (l : List Int) (s : List Bool), (∀ c ∈ l, 0 ≤ c ∧ c < (s.length : Int)) → ∀ c : Int, 0 ≤ c → (rdOf false (marks l s) c = true ↔ (c ∈ l ∨ rdOf false s c = true))
  | [], s, _, c, _ => by simp [marks]
  | a :: l, s, h, c, hc => by
    have ha := h a List.mem_cons_self
    rw [marks, marks_rd l (s.set a.toNat true) (fun c hc => by rw [List.length_set]; exact h c (List.mem_cons_of_mem _ hc)) c hc, rdOf_set ha.1 ha.2 hc, List.mem_cons]
    by_cases e : c = a
    · simp [e]
    · simp [e]
theorem smark_loop (ins : List Int) (hl : ins.length ≤ 1000) (d : Nat) : ∀ (i : Nat) (s : List Bool), i ≤ ins.length → ins.length - i = d → (∀ c ∈ ins, 0 ≤ c ∧ c < (s.length : Int)) → Ev (fun k => runnelref16_steps.l0 k ins s (i : Int)) (marks (ins.drop i) s) := by
  induction d with
  | zero =>
    intro i s hi hd hin
    rw [List.drop_eq_nil_of_le (by omega), marks]
    exact Ev.step (fun k => by rw [runnelref16_steps.l0, if_neg (by omega)]) (Ev.now _)
  | succ d ih =>
    intro i s hi hd hin
    have hlt : i < ins.length := by omega
    rw [List.drop_eq_getElem_cons hlt, marks]
    have hr := rd_get hlt
    have hc := hin _ (List.getElem_mem hlt)
    exact Ev.step (fun k => by rw [runnelref16_steps.l0, if_pos (by omega), if_pos (by omega), hr, if_pos hc.1, if_pos hc.2, wnext i (by omega)]) (ih (i + 1) _ (by omega) (by omega) (fun c h => by rw [List.length_set]; exact hin c h))
theorem smark3_not (ins : List Int) (ii : Int) (s : List Bool) (i : Int) (h1 : ii < (s.length : Int)) (h : rdOf false s ii = false) : Ev (fun k => runnelref16_steps.l3 k ins ii s i) s := by
  by_cases c : i < (ins.length : Int)
  · exact Ev.step (fun k => by rw [runnelref16_steps.l3, if_pos c, if_pos h1, if_neg (by rw [h]; decide)]) (Ev.now _)
  · exact Ev.step (fun k => by rw [runnelref16_steps.l3, if_neg c]) (Ev.now _)
theorem smark3_loop (ins : List Int) (hl : ins.length ≤ 1000) (ii : Int) (h0 : 0 ≤ ii) (d : Nat) : ∀ (i : Nat) (s : List Bool), i ≤ ins.length → ins.length - i = d → (∀ c ∈ ins, 0 ≤ c ∧ c < (s.length : Int)) → ii < (s.length : Int) → rdOf false s ii = true → Ev (fun k => runnelref16_steps.l3 k ins ii s (i : Int)) (marks (ins.drop i) s) := by
  induction d with
  | zero =>
    intro i s hi hd hin h1 h
    rw [List.drop_eq_nil_of_le (by omega), marks]
    exact Ev.step (fun k => by rw [runnelref16_steps.l3, if_neg (by omega)]) (Ev.now _)
  | succ d ih =>
    intro i s hi hd hin h1 h
    have hlt : i < ins.length := by omega
    rw [List.drop_eq_getElem_cons hlt, marks]
    have hr := rd_get hlt
    have hc := hin _ (List.getElem_mem hlt)
    refine Ev.step (fun k => by rw [runnelref16_steps.l3, if_pos (by omega), if_pos h1, if_pos h, if_pos (by omega), hr, if_pos hc.1, if_pos hc.2, wnext i (by omega)]) (ih (i + 1) _ (by omega) (by omega) (fun c h => by rw [List.length_set]; exact hin c h) (by rw [List.length_set]; exact h1) ?_)
    rw [rdOf_set hc.1 hc.2 h0]
    split
    · rfl
    · exact h
def sweepF (nodes : List S42) : Nat → Nat → List Bool → List Bool
  | _, 0, s => s
  | i, d + 1, s => sweepF nodes (i + 1) d (if rdOf false s (i : Int) = true then marks (insOf nodes (i : Int)) s else s)
def sweepsF (nodes : List S42) : Nat → List Bool → List Bool
  | 0, s => s
  | m + 1, s => sweepsF nodes m (sweepF nodes 0 nodes.length s)
theorem sweepF_len (nodes : List S42) : ∀ (d i : Nat) (s : List Bool), (sweepF nodes i d s).length = s.length
  | 0, _, _ => rfl
  | d + 1, i, s => by
    rw [sweepF, sweepF_len nodes d]
    split
    · exact marks_len _ _
    · rfl
theorem sweepsF_len (nodes : List S42) : ∀ (m : Nat) (s : List Bool), (sweepsF nodes m s).length = s.length
  | 0, _ => rfl
  | m + 1, s => by rw [sweepsF, sweepsF_len nodes m, sweepF_len]
theorem sweep_loop (nodes : List S42) (hs : Sound nodes) (d : Nat) : ∀ (i : Nat) (s : List Bool), i + d = nodes.length → s.length = nodes.length → Ev (fun k => runnelref16_steps.l2 k nodes s (i : Int)) (sweepF nodes i d s) := by
  have hn := hs.few
  induction d with
  | zero =>
    intro i s hi hl
    exact Ev.step (fun k => by rw [runnelref16_steps.l2, if_neg (by omega)]; rfl) (Ev.now _)
  | succ d ih =>
    intro i s hi hl
    rw [sweepF]
    have st : ∀ k, runnelref16_steps.l2 (k + 1) nodes s (i : Int) = (runnelref16_steps.l3 k (insOf nodes (i : Int)) (i : Int) s ((0 : Nat) : Int)).bind fun t => runnelref16_steps.l2 k nodes t ((i + 1 : Nat) : Int) := fun k => by
      rw [runnelref16_steps.l2, if_pos (by omega), if_pos (by omega), wnext i (by omega)]; rfl
    have hin := hs.inr (i : Int) (by omega) (by omega)
    have hlen := hs.len (i : Int) (by omega) (by omega)
    by_cases h : rdOf false s (i : Int) = true
    · rw [if_pos h]
      have e := smark3_loop (insOf nodes (i : Int)) (by omega) (i : Int) (by omega) _ 0 s (by omega) rfl (fun c hc => by rw [hl]; exact hin c hc) (by omega) h
      rw [List.drop_zero] at e
      exact Ev.step st (Ev.bind e (ih (i + 1) _ (by omega) (by rw [marks_len]; exact hl)))
    · rw [if_neg h]
      exact Ev.step st (Ev.bind (smark3_not _ _ _ _ (by omega) (Bool.eq_false_iff.mpr h)) (ih (i + 1) _ (by omega) hl))
theorem sweeps_loop (nodes : List S42) (hs : Sound nodes) (d : Nat) : ∀ (i : Nat) (s : List Bool), i + d = nodes.length → s.length = nodes.length → Ev (fun k => runnelref16_steps.l1 k nodes s (i : Int)) (sweepsF nodes d s) := by
  have hn := hs.few
  induction d with
  | zero =>
    intro i s hi hl
    exact Ev.step (fun k => by rw [runnelref16_steps.l1, if_neg (by omega)]; rfl) (Ev.now _)
  | succ d ih =>
    intro i s hi hl
    rw [sweepsF]
    have st : ∀ k, runnelref16_steps.l1 (k + 1) nodes s (i : Int) = (runnelref16_steps.l2 k nodes s ((0 : Nat) : Int)).bind fun t => runnelref16_steps.l1 k nodes t ((i + 1 : Nat) : Int) := fun k => by
      rw [runnelref16_steps.l1, if_pos (by omega), wnext i (by omega)]; rfl
    exact Ev.step st (Ev.bind (sweep_loop nodes hs nodes.length 0 s (by omega) hl) (ih (i + 1) _ (by omega) (by rw [sweepF_len]; exact hl)))
theorem sweepF_mono (nodes : List S42) (hs : Sound nodes) : ∀ (d i : Nat) (s : List Bool), i + d ≤ nodes.length → s.length = nodes.length → ∀ c : Int, 0 ≤ c → rdOf false s c = true → rdOf false (sweepF nodes i d s) c = true
  | 0, _, _, _, _, _, _, h => h
  | d + 1, i, s, hi, hl, c, hc, h => by
    rw [sweepF]
    split
    · exact sweepF_mono nodes hs d (i + 1) _ (by omega) (by rw [marks_len]; exact hl) c hc ((marks_rd _ _ (fun x hx => by rw [hl]; exact hs.inr (i : Int) (by omega) (by omega) x hx) c hc).2 (.inr h))
    · exact sweepF_mono nodes hs d (i + 1) s (by omega) hl c hc h
theorem sweepF_hits (nodes : List S42) (hs : Sound nodes) : ∀ (d i : Nat) (s : List Bool), i + d ≤ nodes.length → s.length = nodes.length → ∀ j : Nat, i ≤ j → j < i + d → rdOf false s (j : Int) = true → ∀ c ∈ insOf nodes (j : Int), rdOf false (sweepF nodes i d s) c = true
  | 0, _, _, _, _, _, h1, h2, _, _, _ => by omega
  | d + 1, i, s, hi, hl, j, h1, h2, h, c, hc => by
    rw [sweepF]
    have hr : ∀ x ∈ insOf nodes (i : Int), 0 ≤ x ∧ x < (s.length : Int) := fun x hx => by rw [hl]; exact hs.inr (i : Int) (by omega) (by omega) x hx
    by_cases e : j = i
    · subst e
      rw [if_pos h]
      have c0 := (hr c hc).1
      exact sweepF_mono nodes hs d (j + 1) _ (by omega) (by rw [marks_len]; exact hl) c c0 ((marks_rd _ _ hr c c0).2 (.inl hc))
    · split
      · exact sweepF_hits nodes hs d (i + 1) _ (by omega) (by rw [marks_len]; exact hl) j (by omega) (by omega) ((marks_rd _ _ hr (j : Int) (by omega)).2 (.inr h)) c hc
      · exact sweepF_hits nodes hs d (i + 1) s (by omega) hl j (by omega) (by omega) h c hc
theorem sweepF_sound (nodes : List S42) (hs : Sound nodes) (R : Int → Prop) (hR : ∀ a : Int, 0 ≤ a → a < (nodes.length : Int) → R a → ∀ c ∈ insOf nodes a, R c) : ∀ (d i : Nat) (s : List Bool), i + d ≤ nodes.length → s.length = nodes.length → (∀ c : Int, 0 ≤ c → rdOf false s c = true → R c) → ∀ c : Int, 0 ≤ c → rdOf false (sweepF nodes i d s) c = true → R c
  | 0, _, _, _, _, h => h
  | d + 1, i, s, hi, hl, h => by
    rw [sweepF]
    by_cases e : rdOf false s (i : Int) = true
    · rw [if_pos e]
      refine sweepF_sound nodes hs R hR d (i + 1) _ (by omega) (by rw [marks_len]; exact hl) (fun c hc hm => ?_)
      rcases (marks_rd _ _ (fun x hx => by rw [hl]; exact hs.inr (i : Int) (by omega) (by omega) x hx) c hc).1 hm with h2 | h2
      · exact hR (i : Int) (by omega) (by omega) (h _ (by omega) e) c h2
      · exact h c hc h2
    · rw [if_neg e]
      exact sweepF_sound nodes hs R hR d (i + 1) s (by omega) hl h
theorem sweepsF_sound (nodes : List S42) (hs : Sound nodes) (R : Int → Prop) (hR : ∀ a : Int, 0 ≤ a → a < (nodes.length : Int) → R a → ∀ c ∈ insOf nodes a, R c) : ∀ (m : Nat) (s : List Bool), s.length = nodes.length → (∀ c : Int, 0 ≤ c → rdOf false s c = true → R c) → ∀ c : Int, 0 ≤ c → rdOf false (sweepsF nodes m s) c = true → R c
  | 0, _, _, h => h
  | m + 1, s, hl, h => by
    rw [sweepsF]
    exact sweepsF_sound nodes hs R hR m _ (by rw [sweepF_len]; exact hl) (sweepF_sound nodes hs R hR nodes.length 0 s (by omega) hl h)
theorem sweepsF_mono (nodes : List S42) (hs : Sound nodes) : ∀ (m : Nat) (s : List Bool), s.length = nodes.length → ∀ c : Int, 0 ≤ c → rdOf false s c = true → rdOf false (sweepsF nodes m s) c = true
  | 0, _, _, _, _, h => h
  | m + 1, s, hl, c, hc, h => by
    rw [sweepsF]
    exact sweepsF_mono nodes hs m _ (by rw [sweepF_len]; exact hl) c hc (sweepF_mono nodes hs nodes.length 0 s (by omega) hl c hc h)
theorem unseen_le : ∀ (s t : List Bool), s.length = t.length → (∀ i : Nat, s.getD i false = true → t.getD i false = true) → unseen t ≤ unseen s ∧ (unseen t = unseen s → t = s)
  | [], [], _, _ => ⟨Nat.le_refl _, fun _ => rfl⟩
  | a :: s, b :: t, hl, h => by
    have ih := unseen_le s t (by simpa using hl) (fun i hi => by have := h (i + 1); simpa using this (by simpa using hi))
    have h0 : a = true → b = true := fun ha => by have := h 0; simpa using this (by simpa using ha)
    unfold unseen at ih ⊢
    cases a <;> cases b <;> simp at ih h0 ⊢
    · exact ih
    · omega
    · exact ih
  | [], _ :: _, hl, _ => by simp at hl
  | _ :: _, [], hl, _ => by simp at hl
def Closed (nodes : List S42) (s : List Bool) : Prop := ∀ c : Int, 0 ≤ c → c < (nodes.length : Int) → rdOf false s c = true → ∀ d ∈ insOf nodes c, rdOf false s d = true
theorem sweepF_closed (nodes : List S42) (hs : Sound nodes) (s : List Bool) (hl : s.length = nodes.length) (h : sweepF nodes 0 nodes.length s = s) : Closed nodes s := fun c c0 c1 hc d hd => by
  have e := sweepF_hits nodes hs nodes.length 0 s (by omega) hl c.toNat (by omega) (by omega) (by rw [Int.toNat_of_nonneg c0]; exact hc) d (by rw [Int.toNat_of_nonneg c0]; exact hd)
  rw [h] at e
  exact e
theorem sweepF_fix (nodes : List S42) (hs : Sound nodes) (s : List Bool) (hl : s.length = nodes.length) (h : Closed nodes s) : Closed nodes (sweepF nodes 0 nodes.length s) := by
  have hm := sweepF_mono nodes hs nodes.length 0 s (by omega) hl
  have hb := sweepF_sound nodes hs (fun c => rdOf false s c = true) (fun a a0 a1 ha c hc => h a a0 a1 ha c hc) nodes.length 0 s (by omega) hl (fun _ _ h => h)
  intro c c0 c1 hc d hd
  exact hm d (hs.inr c c0 c1 d hd).1 (h c c0 c1 (hb c c0 hc) d hd)
theorem sweepsF_fix (nodes : List S42) (hs : Sound nodes) : ∀ (m : Nat) (s : List Bool), s.length = nodes.length → Closed nodes s → Closed nodes (sweepsF nodes m s)
  | 0, _, _, h => h
  | m + 1, s, hl, h => by
    rw [sweepsF]
    exact sweepsF_fix nodes hs m _ (by rw [sweepF_len]; exact hl) (sweepF_fix nodes hs s hl h)
theorem unseen_zero : ∀ (l : List Bool), unseen l = 0 → ∀ i : Nat, i < l.length → l.getD i false = true
  | [], _, _, h => by simp at h
  | b :: l, h, i, hi => by
    have hb : b = true ∧ unseen l = 0 := by
      unfold unseen at h ⊢
      cases b <;> simp at h ⊢
      exact h
    cases i with
    | zero => simpa using hb.1
    | succ i => simpa using unseen_zero l hb.2 i (by simpa using hi)
theorem sweepsF_closed (nodes : List S42) (hs : Sound nodes) : ∀ (m : Nat) (s : List Bool), s.length = nodes.length → unseen s ≤ m → Closed nodes (sweepsF nodes m s)
  | 0, s, hl, h => fun c _ _ _ d hd => by
    have hd2 := hs.inr c ‹_› ‹_› d hd
    exact unseen_zero s (by omega) d.toNat (by omega)
  | m + 1, s, hl, h => by
    rw [sweepsF]
    obtain ⟨u1, u2⟩ := unseen_le s (sweepF nodes 0 nodes.length s) (sweepF_len nodes _ _ _).symm (fun i hi => by
      have := sweepF_mono nodes hs nodes.length 0 s (by omega) hl (i : Int) (by omega) (by unfold rdOf; rw [Int.toNat_natCast]; exact hi)
      unfold rdOf at this; rw [Int.toNat_natCast] at this; exact this)
    by_cases e : unseen (sweepF nodes 0 nodes.length s) = unseen s
    · have e2 := u2 e
      rw [e2]
      exact sweepsF_fix nodes hs m s hl (sweepF_closed nodes hs s hl e2)
    · exact sweepsF_closed nodes hs m _ (by rw [sweepF_len]; exact hl) (by omega)
theorem steps_is (nodes : List S42) (hs : Sound nodes) (outs : List Int) (room fr : Int) (h0 : 0 ≤ fr) (h1 : fr < (nodes.length : Int)) : ∃ s, Ev (fun k => runnelref16_steps.f k nodes outs room fr) s ∧ s.length = nodes.length ∧ (rdOf false s fr = true ↔ Path nodes fr fr) := by
  have hn := hs.few
  have hin := hs.inr fr h0 h1
  have hr : ∀ c ∈ insOf nodes fr, 0 ≤ c ∧ c < ((List.replicate nodes.length false).length : Int) := fun c hc => by rw [List.length_replicate]; exact hin c hc
  have e1 := smark_loop (insOf nodes fr) (by have := hs.len fr h0 h1; omega) _ 0 (List.replicate nodes.length false) (by omega) rfl hr
  rw [List.drop_zero] at e1
  have hl : (marks (insOf nodes fr) (List.replicate nodes.length false)).length = nodes.length := by rw [marks_len, List.length_replicate]
  have e2 := sweeps_loop nodes hs nodes.length 0 _ (by omega) hl
  have m0 := fun c c0 => marks_rd (insOf nodes fr) (List.replicate nodes.length false) hr c c0
  have hz : ∀ c : Int, ¬ rdOf false (List.replicate nodes.length false) c = true := fun c => by
    unfold rdOf
    rw [List.getD_eq_getElem?_getD, List.getElem?_replicate]
    split <;> simp
  refine ⟨_, Ev.congr (fun k => (if_pos h0).trans ((if_pos h1).trans (if_pos (by omega)))) (Ev.bind e1 e2), by rw [sweepsF_len]; exact hl, fun h => ?_, fun h => ?_⟩
  · refine sweepsF_sound nodes hs (fun c => Path nodes fr c) (fun a _ _ ha c hc => .more ha hc) nodes.length _ hl (fun c c0 hc => ?_) fr h0 h
    rcases (m0 c c0).1 hc with h2 | h2
    · exact .one h2
    · exact absurd h2 (hz c)
  · have hcl := sweepsF_closed nodes hs nodes.length (marks (insOf nodes fr) (List.replicate nodes.length false)) hl (by
      have := (unseen_le (List.replicate nodes.length false) (marks (insOf nodes fr) (List.replicate nodes.length false)) (by rw [hl, List.length_replicate]) (fun i hi => by
        have := hz (i : Int); unfold rdOf at this; rw [Int.toNat_natCast] at this; exact absurd hi this)).1
      rw [unseen_new] at this; exact this)
    have key : ∀ c, Path nodes fr c → (0 ≤ c ∧ c < (nodes.length : Int)) ∧ rdOf false (sweepsF nodes nodes.length (marks (insOf nodes fr) (List.replicate nodes.length false))) c = true := fun c hp => by
      induction hp with
      | one hb => exact ⟨hin _ hb, sweepsF_mono nodes hs nodes.length _ hl _ (hin _ hb).1 ((m0 _ (hin _ hb).1).2 (.inl hb))⟩
      | more _ hc ih => exact ⟨hs.inr _ ih.1.1 ih.1.2 _ hc, hcl _ ih.1.1 ih.1.2 ih.2 _ hc⟩
    exact (key fr h).2
theorem rshape_is (nodes : List S42) (outs : List Int) (room : Int) (hn : nodes.length ≤ 70) (ho : outs.length ≤ 20) (hlen : ∀ j : Nat, j < nodes.length → (rd_T42 nodes (j : Int)).f1.length ≤ 20) :
    Ev (fun k => runnelref16_shape.f k nodes outs room) (if wholeP nodes outs room = 0 then (if (shapeF nodes 0 nodes.length).1 = 0 then (0, (nodes.length : Int)) else shapeF nodes 0 nodes.length) else (wholeP nodes outs room, (nodes.length : Int))) := by
  have e1 := rouns_loop nodes.length hn outs (by omega) _ 0 (by omega) rfl
  have e2 := rshape_loop nodes hn hlen nodes.length 0 (by omega)
  rw [List.drop_zero] at e1
  by_cases a : (nodes.length : Int) > 64
  · have w : wholeP nodes outs room = 3 := if_pos (.inl a)
    rw [w, if_neg (show ¬ ((3 : Int) = 0) by decide)]; exact Ev.congr (fun k => if_pos a) (Ev.now _)
  by_cases b : (outs.length : Int) > 8
  · have w : wholeP nodes outs room = 3 := if_pos (.inr b)
    rw [w, if_neg (show ¬ ((3 : Int) = 0) by decide)]; exact Ev.congr (fun k => (if_neg a).trans (if_pos b)) (Ev.now _)
  have nw : ¬ ((nodes.length : Int) > 64 ∨ (outs.length : Int) > 8) := fun h => h.elim a b
  by_cases c : (nodes.length : Int) = 0
  · have w : wholeP nodes outs room = 1 := (if_neg nw).trans (if_pos (.inl c))
    rw [w, if_neg (show ¬ ((1 : Int) = 0) by decide)]; exact Ev.congr (fun k => (if_neg a).trans ((if_neg b).trans (if_pos c))) (Ev.now _)
  by_cases d : (outs.length : Int) = 0
  · have w : wholeP nodes outs room = 1 := (if_neg nw).trans (if_pos (.inr (.inl d)))
    rw [w, if_neg (show ¬ ((1 : Int) = 0) by decide)]; exact Ev.congr (fun k => (if_neg a).trans ((if_neg b).trans ((if_neg c).trans (if_pos d)))) (Ev.now _)
  have st : ∀ k, runnelref16_shape.f k nodes outs room = if 1 ≤ room ∧ room ≤ 65536 then ((runnelref16_shape.l0 k (nodes.length : Int) outs ((0 : Nat) : Int)).bind fun c => (if c = true then (runnelref16_shape.l1 k nodes ((0 : Nat) : Int)) else some (9, (nodes.length : Int)))) else some (1, (nodes.length : Int)) := fun k => by
    rw [runnelref16_shape.f, if_neg a, if_neg b, if_neg c, if_neg d, rin_is, Option.bind_some]
    simp only [decide_eq_true_eq]
    rfl
  by_cases e : 1 ≤ room ∧ room ≤ 65536
  · have nz : ¬ ((nodes.length : Int) = 0 ∨ (outs.length : Int) = 0 ∨ ¬ (1 ≤ room ∧ room ≤ 65536)) := fun h => h.elim c (fun h => h.elim d (fun h => h e))
    by_cases h : outs.all (fun o => decide (0 ≤ o ∧ o ≤ (nodes.length : Int) - 1)) = true
    · have w : wholeP nodes outs room = 0 := (if_neg nw).trans ((if_neg nz).trans (if_pos h))
      rw [w, if_pos rfl]
      exact Ev.congr (fun k => (st k).trans (if_pos e)) (Ev.bind e1 (Ev.congr (fun k => if_pos h) e2))
    · have w : wholeP nodes outs room = 9 := (if_neg nw).trans ((if_neg nz).trans (if_neg h))
      rw [w, if_neg (show ¬ ((9 : Int) = 0) by decide)]
      exact Ev.congr (fun k => (st k).trans (if_pos e)) (Ev.bind e1 (Ev.congr (fun k => if_neg h) (Ev.now _)))
  · have w : wholeP nodes outs room = 1 := (if_neg nw).trans (if_pos (.inr (.inr e)))
    rw [w, if_neg (show ¬ ((1 : Int) = 0) by decide)]
    exact Ev.congr (fun k => (st k).trans (if_neg e)) (Ev.now _)
theorem rtype_ev (ts : List S128) (cols : List Int) : Ev (fun k => runnelref08_Type.f k ts cols) (typeP ts cols) := by
  obtain ⟨K, h⟩ := type_ev ts cols
  refine ⟨K + 400, fun k hk => ?_⟩
  obtain ⟨r, e1, e2⟩ := types_both ts cols (k := k) (by omega)
  have := h k (by omega)
  show runnelref08_Type.f k ts cols = _
  rw [e2, ← e1]
  exact this
theorem rmap_loop (l : List (List S128)) (cols : List Int) (hl : l.length ≤ 16) (d : Nat) : ∀ (i : Nat) (acc : List Int), i ≤ l.length → l.length - i = d → acc.length ≤ i →
    Ev (fun k => runnelref16_mapped.l0 k l cols acc (i : Int)) (if (mapF cols (l.drop i)).2 = 0 then (acc ++ (mapF cols (l.drop i)).1, 0) else ([], (mapF cols (l.drop i)).2)) := by
  induction d with
  | zero =>
    intro i acc hi hd ha
    rw [List.drop_eq_nil_of_le (by omega)]
    simp only [mapF, if_true, List.append_nil]
    exact Ev.step (fun k => by rw [runnelref16_mapped.l0, if_neg (by omega)]) (Ev.now _)
  | succ d ih =>
    intro i acc hi hd ha
    have hlt : i < l.length := by omega
    rw [List.drop_eq_getElem_cons hlt, mapF]
    have hr := rdL_get hlt
    have st : ∀ k, runnelref16_mapped.l0 (k + 1) l cols acc (i : Int) = (runnelref08_Type.f k l[i] cols).bind fun bt => if bt.2.1 = 0 then runnelref16_mapped.l0 k l cols (acc ++ [bt.1]) ((i + 1 : Nat) : Int) else some ([], bt.2.1) := fun k => by
      rw [runnelref16_mapped.l0, if_pos (by omega), if_pos (by omega), hr, wnext i (by omega)]
      congr 1
      funext bt
      by_cases h : bt.2.1 = 0
      · rw [if_pos h, if_pos h, if_pos (by omega)]
      · rw [if_neg h, if_neg h]
    by_cases h : (typeP l[i] cols).2.1 = 0
    · rw [if_pos h]
      have e := ih (i + 1) (acc ++ [(typeP l[i] cols).1]) (by omega) (by omega) (by rw [List.length_append]; simp; omega)
      by_cases h2 : (mapF cols (l.drop (i + 1))).2 = 0
      · rw [if_pos h2] at e ⊢
        rw [if_pos rfl]
        rw [List.append_assoc] at e
        exact Ev.step st (Ev.bind (rtype_ev _ _) (Ev.congr (fun k => if_pos h) e))
      · rw [if_neg h2] at e ⊢
        rw [if_neg h2]
        exact Ev.step st (Ev.bind (rtype_ev _ _) (Ev.congr (fun k => if_pos h) e))
    · rw [if_neg h, if_neg h]
      exact Ev.step st (Ev.bind (rtype_ev _ _) (Ev.congr (fun k => if_neg h) (Ev.now _)))
theorem pair_or (r : List Int × Int) (h : r.2 ≠ 0 → r.1 = []) : (if r.2 = 0 then (r.1, 0) else ([], r.2)) = r := by
  obtain ⟨a, b⟩ := r
  by_cases z : b = 0
  · simp [z]
  · have := h z; simp at this; simp [z, this]
theorem rmap_is (l : List (List S128)) (cols : List Int) : Ev (fun k => runnelref16_mapped.f k l cols) (mapP l cols) := by
  unfold mapP
  by_cases h0 : (l.length : Int) = 0
  · rw [if_pos h0]; exact Ev.congr (fun k => if_pos h0) (Ev.now _)
  rw [if_neg h0]
  by_cases h : (l.length : Int) > 16
  · rw [if_pos h]; exact Ev.congr (fun k => (if_neg h0).trans (if_pos h)) (Ev.now _)
  rw [if_neg h]
  have e := rmap_loop l cols (by omega) l.length 0 [] (by omega) (by omega) (Nat.le_refl _)
  rw [List.drop_zero, List.nil_append, pair_or _ (mapF_len cols l).2.2] at e
  exact Ev.congr (fun k => (if_neg h0).trans (if_neg h)) e
theorem rproj_loop (l cols : List Int) (hl : l.length ≤ 16) (hc : cols.length ≤ 100) (d : Nat) : ∀ (i : Nat) (acc : List Int), i ≤ l.length → l.length - i = d → acc.length ≤ i →
    Ev (fun k => runnelref16_kinds.l1 k l cols acc (i : Int)) (if (projF cols (l.drop i)).2 = 0 then (acc ++ (projF cols (l.drop i)).1, 0) else ([], (projF cols (l.drop i)).2)) := by
  induction d with
  | zero =>
    intro i acc hi hd ha
    rw [List.drop_eq_nil_of_le (by omega)]
    simp only [projF, if_true, List.append_nil]
    exact Ev.step (fun k => by rw [runnelref16_kinds.l1, if_neg (by omega)]) (Ev.now _)
  | succ d ih =>
    intro i acc hi hd ha
    have hlt : i < l.length := by omega
    rw [List.drop_eq_getElem_cons hlt, projF]
    have hr := rd_get hlt
    by_cases h : 0 ≤ l[i] ∧ l[i] < (cols.length : Int)
    · rw [if_pos h]
      have st : ∀ k, runnelref16_kinds.l1 (k + 1) l cols acc (i : Int) = runnelref16_kinds.l1 k l cols (acc ++ [rd cols l[i]]) ((i + 1 : Nat) : Int) := fun k => by
        rw [runnelref16_kinds.l1, if_pos (by omega), if_pos (by omega), hr, rin_is, Option.bind_some, if_pos (by rw [wpred _ (by omega)]; exact decide_eq_true ⟨h.1, by omega⟩), if_pos h.1, if_pos h.2, if_pos (by omega), wnext i (by omega)]
      have e := ih (i + 1) (acc ++ [rd cols l[i]]) (by omega) (by omega) (by rw [List.length_append]; simp; omega)
      by_cases h2 : (projF cols (l.drop (i + 1))).2 = 0
      · rw [if_pos h2] at e ⊢
        rw [if_pos rfl]
        rw [List.append_assoc] at e
        exact Ev.step st e
      · rw [if_neg h2] at e ⊢
        rw [if_neg h2]
        exact Ev.step st e
    · rw [if_neg h, if_neg (by decide)]
      refine Ev.step (fun k => ?_) (Ev.now _)
      rw [runnelref16_kinds.l1, if_pos (by omega), if_pos (by omega), hr, rin_is, Option.bind_some, if_neg (by rw [wpred _ (by omega)]; simp only [decide_eq_true_eq]; omega)]
theorem rinput_loop (l : List Int) (hl : l.length ≤ 16) (d : Nat) : ∀ (i : Nat), i ≤ l.length → l.length - i = d → Ev (fun k => runnelref16_kinds.l0 k l (i : Int)) (if (l.drop i).all okK = true then (l, 0) else ([], 8)) := by
  induction d with
  | zero =>
    intro i hi hd
    rw [List.drop_eq_nil_of_le (by omega), if_pos (show ([] : List Int).all okK = true from rfl)]
    exact Ev.step (fun k => by rw [runnelref16_kinds.l0, if_neg (by omega)]) (Ev.now _)
  | succ d ih =>
    intro i hi hd
    have hlt : i < l.length := by omega
    rw [List.drop_eq_getElem_cons hlt, List.all_cons]
    have hr := rd_get hlt
    have hk : decide (0 ≤ l[i] ∧ l[i] ≤ 1) = okK l[i] := by
      unfold okK
      by_cases a : l[i] = 0
      · simp [a]
      · by_cases b : l[i] = 1
        · simp [b]
        · rw [decide_eq_false (by omega), beq_eq_false_iff_ne.mpr a, beq_eq_false_iff_ne.mpr b]; rfl
    have st : ∀ k, runnelref16_kinds.l0 (k + 1) l (i : Int) = if okK l[i] = true then runnelref16_kinds.l0 k l ((i + 1 : Nat) : Int) else some (([] : List Int), 8) := fun k => by
      rw [runnelref16_kinds.l0, if_pos (by omega), if_pos (by omega), hr, rin_is, Option.bind_some, hk, wnext i (by omega)]
    cases h : okK l[i] with
    | true => rw [Bool.true_and]; exact Ev.step (fun k => by rw [st, if_pos h]) (ih (i + 1) (by omega) (by omega))
    | false => rw [Bool.false_and, if_neg (by decide)]; exact Ev.step (fun k => by rw [st, h, if_neg (by decide)]) (Ev.now _)
theorem rsame_loop (a b : List Int) (hl : a.length = b.length) (ha : a.length ≤ 1000) (d : Nat) : ∀ (i : Nat), i ≤ a.length → a.length - i = d → Ev (fun k => runnelref16_same.l0 k a b (i : Int)) (decide (a.drop i = b.drop i)) := by
  induction d with
  | zero =>
    intro i hi hd
    rw [List.drop_eq_nil_of_le (by omega), List.drop_eq_nil_of_le (by omega)]
    exact Ev.step (fun k => by rw [runnelref16_same.l0, if_neg (by omega)]; simp) (Ev.now _)
  | succ d ih =>
    intro i hi hd
    have hlt : i < a.length := by omega
    have hlt2 : i < b.length := by omega
    rw [List.drop_eq_getElem_cons hlt, List.drop_eq_getElem_cons hlt2]
    have hr := rd_get hlt
    have hr2 := rd_get hlt2
    have st : ∀ k, runnelref16_same.l0 (k + 1) a b (i : Int) = if a[i] = b[i] then runnelref16_same.l0 k a b ((i + 1 : Nat) : Int) else some false := fun k => by
      rw [runnelref16_same.l0, if_pos (by omega), if_pos (by omega), if_pos (by omega), hr, hr2, wnext i (by omega)]
    by_cases h : a[i] = b[i]
    · have e : decide (a[i] :: a.drop (i + 1) = b[i] :: b.drop (i + 1)) = decide (a.drop (i + 1) = b.drop (i + 1)) := decide_eq_decide.mpr (by rw [h]; simp only [List.cons.injEq, true_and])
      rw [e]; exact Ev.step (fun k => by rw [st, if_pos h]) (ih (i + 1) (by omega) (by omega))
    · rw [decide_eq_false (fun e => h (List.cons.inj e).1)]; exact Ev.step (fun k => by rw [st, if_neg h]) (Ev.now _)
theorem rsame_is (a b : List Int) (ha : a.length ≤ 1000) : Ev (fun k => runnelref16_same.f k a b) (decide (a = b)) := by
  by_cases h : (a.length : Int) = (b.length : Int)
  · have e := rsame_loop a b (by omega) ha a.length 0 (by omega) (by omega)
    rw [List.drop_zero, List.drop_zero] at e
    exact Ev.congr (fun k => if_pos h) e
  · rw [decide_eq_false (fun e => h (by rw [e]))]
    exact Ev.congr (fun k => if_neg h) (Ev.now _)
theorem rrows_loop (ins : List (List Int)) (a : List Int) (hk : ∀ x ∈ ins, x.length ≤ 16) (hl : ins.length ≤ 100) (d : Nat) : ∀ (i : Nat), i ≤ ins.length → ins.length - i = d → Ev (fun k => runnelref16_kinds.l2 k ins a (i : Int)) (if (ins.drop i).all (fun x => decide (x = a)) = true then (a, 0) else ([], 80)) := by
  induction d with
  | zero =>
    intro i hi hd
    rw [List.drop_eq_nil_of_le (by omega), if_pos (show ([] : List (List Int)).all (fun x => decide (x = a)) = true from rfl)]
    exact Ev.step (fun k => by rw [runnelref16_kinds.l2, if_neg (by omega)]) (Ev.now _)
  | succ d ih =>
    intro i hi hd
    have hlt : i < ins.length := by omega
    rw [List.drop_eq_getElem_cons hlt, List.all_cons]
    have hr : rd_L3 ins (i : Int) = ins[i] := by unfold rd_L3; rw [Int.toNat_natCast, List.getD_eq_getElem?_getD, List.getElem?_eq_getElem hlt]; rfl
    have st : ∀ k, runnelref16_kinds.l2 (k + 1) ins a (i : Int) = (runnelref16_same.f k ins[i] a).bind fun t => (if t = true then (runnelref16_kinds.l2 k ins a ((i + 1 : Nat) : Int)) else some (([] : List Int), 80)) := fun k => by
      rw [runnelref16_kinds.l2, if_pos (by omega), if_pos (by omega), hr, wnext i (by omega)]
    have he := rsame_is ins[i] a (by have := hk _ (List.getElem_mem hlt); omega)
    cases h : decide (ins[i] = a) with
    | true => rw [h] at he; rw [Bool.true_and]; exact Ev.step st (Ev.bind he (Ev.congr (fun k => if_pos rfl) (ih (i + 1) (by omega) (by omega))))
    | false => rw [h] at he; rw [Bool.false_and, if_neg (by decide)]; exact Ev.step st (Ev.bind he (Ev.congr (fun k => if_neg (by decide)) (Ev.now _)))
theorem rwin_is (a b : Int) : Ev (fun k => runnelref14_Check.f k a b) (winP a b) := by
  unfold winP
  have j : ∀ t : Bool, Ev (fun k => runnelref14_Check.j0 k a b t) (if t = true then 1 else if a > wrap64 (64 * b) then 3 else 0) := fun t => by
    refine Ev.step (f := fun _ => some (if t = true then 1 else if a > wrap64 (64 * b) then 3 else 0)) (fun k => ?_) (Ev.now _)
    rw [runnelref14_Check.j0]; split
    · rfl
    · split <;> rfl
  by_cases h1 : a < 1
  · rw [if_neg (by omega)]; exact Ev.congr (fun k => if_pos h1) (j true)
  by_cases h2 : a > 1099511627776
  · rw [if_neg (by omega)]; exact Ev.congr (fun k => (if_neg h1).trans (if_pos h2)) (j true)
  by_cases h3 : b < 1
  · rw [if_neg (by omega)]; exact Ev.congr (fun k => (if_neg h1).trans ((if_neg h2).trans (if_pos h3))) (j true)
  have e := j (decide (b > 1099511627776))
  by_cases h4 : b > 1099511627776
  · rw [if_neg (by omega)]; rw [decide_eq_true h4] at e; exact Ev.congr (fun k => by rw [runnelref14_Check.f, if_neg h1, if_neg h2, if_neg h3, decide_eq_true h4]) e
  · rw [if_pos (by omega)]; rw [decide_eq_false h4] at e; exact Ev.congr (fun k => by rw [runnelref14_Check.f, if_neg h1, if_neg h2, if_neg h3, decide_eq_false h4]) e
theorem rgroup_is (g key n : Int) (cols : List Int) (h0 : 0 ≤ g) (h1 : g ≤ 5) : runnelref15_Check.f g key n cols = some (groupP g key n cols) := by
  unfold runnelref15_Check.f runnelref15_Check.g groupP runnelref15_Check.t
  rcases (by omega : g = 0 ∨ g = 1 ∨ g = 2 ∨ g = 3 ∨ g = 4 ∨ g = 5) with rfl | rfl | rfl | rfl | rfl | rfl
  · simp
  · by_cases b : key < 0 <;> by_cases c : (cols.length : Int) < key <;> simp [b, c]
  · by_cases b : key < 0 <;> by_cases c : (cols.length : Int) < key <;> by_cases p : n < 0 <;> by_cases q : (cols.length : Int) ≤ n <;> simp [b, c, p, q]
  · by_cases b : key < 0 <;> by_cases c : (cols.length : Int) < key <;> simp [b, c]
  · by_cases b : key < 0 <;> by_cases c : (cols.length : Int) < key <;> simp [b, c]
  · by_cases b : key < 0 <;> by_cases c : (cols.length : Int) < key <;> by_cases p : n < 1 <;> by_cases q : 1000 < n <;> simp [b, c, p, q]
theorem rGroup_is (x : Int) : runnelref16_Group.f x = some (if 9 ≤ x ∧ x ≤ 14 then (x - 9, true) else (0, false)) := by
  unfold runnelref16_Group.f
  rw [rin_is, Option.bind_some]
  by_cases h : 9 ≤ x ∧ x ≤ 14
  · rw [if_pos (decide_eq_true h), if_pos h, w64 (by omega)]
  · rw [if_neg (by simp only [decide_eq_true_eq]; exact h), if_neg h]
theorem rjoin_is (key : Int) (a b : List Int) (ha : a.length ≤ 100) (hb : b.length ≤ 100) : Ev (fun k => ((runnelref16_in.f key 0 (a.length : Int)).bind fun t => (if t = true then (if key > (b.length : Int) then some (([] : List Int), (9 : Int)) else (if 0 ≤ key then (if key ≤ (a.length : Int) then ((runnelref16_same.f k (a.take key.toNat) (b.take key.toNat)).bind fun t => (if t = true then (if wrap64 (wrap64 ((a.length : Int) + (b.length : Int)) - key) > 16 then some (([] : List Int), 3) else (if a.length + b.length < 1000000 then some (a ++ b.drop key.toNat, 0) else none)) else some (([] : List Int), 80))) else none) else none)) else some (([] : List Int), 9)))) (joinP key a b) := by
  refine Ev.congr (fun k => by rw [rin_is, Option.bind_some]) ?_
  unfold joinP
  by_cases h : 0 ≤ key ∧ key ≤ (a.length : Int)
  · refine Ev.congr (fun k => if_pos (decide_eq_true h)) ?_
    by_cases c : key > (b.length : Int)
    · rw [if_neg (show ¬ (0 ≤ key ∧ key ≤ (a.length : Int) ∧ key ≤ (b.length : Int)) by omega)]; exact Ev.congr (fun k => if_pos c) (Ev.now _)
    · rw [if_pos (show 0 ≤ key ∧ key ≤ (a.length : Int) ∧ key ≤ (b.length : Int) by omega)]
      refine Ev.congr (fun k => (if_neg c).trans ((if_pos h.1).trans (if_pos h.2))) ?_
      have e := rsame_is (a.take key.toNat) (b.take key.toNat) (by rw [List.length_take]; omega)
      by_cases s : a.take key.toNat = b.take key.toNat
      · rw [decide_eq_true s] at e
        rw [if_pos s]
        refine Ev.bind e (Ev.congr (fun k => if_pos rfl) ?_)
        have w : wrap64 (wrap64 ((a.length : Int) + (b.length : Int)) - key) = (a.length : Int) + (b.length : Int) - key := by rw [w64 (x := (a.length : Int) + (b.length : Int)) (by omega), w64 (by omega)]
        by_cases z : (a.length : Int) + (b.length : Int) - key > 16
        · rw [if_pos z]; exact Ev.congr (fun k => if_pos (by rw [w]; exact z)) (Ev.now _)
        · rw [if_neg z]; exact Ev.congr (fun k => (if_neg (by rw [w]; exact z)).trans (if_pos (by omega))) (Ev.now _)
      · rw [decide_eq_false s] at e
        rw [if_neg s]
        exact Ev.bind e (Ev.congr (fun k => if_neg (by decide)) (Ev.now _))
  · rw [if_neg (show ¬ (0 ≤ key ∧ key ≤ (a.length : Int) ∧ key ≤ (b.length : Int)) by omega)]
    exact Ev.congr (fun k => if_neg (by simp only [decide_eq_true_eq]; exact h)) (Ev.now _)
/-- What the reference says of a node's kinds. -/
theorem rkinds_is (x : S42) (kinds : List (List Int)) (h1 : x.f0 ≠ 0 → 0 < x.f1.length) (h15 : x.f0 = 15 → 1 < x.f1.length) (hl : x.f1.length ≤ 100) (hk : ∀ i : Int, (rd_L3 kinds i).length ≤ 16) :
    Ev (fun k => runnelref16_kinds.f k x.f0 x.f1 x.f2 x.f3 x.f4 x.f5 x.f6 x.f7 x.f8 (rd_L3 (x.f1.map (rd_L3 kinds)) 0) (rd_L3 (x.f1.map (rd_L3 kinds)) 1) (x.f1.map (rd_L3 kinds))) (ofP x kinds) := by
  have hrow : ∀ i : Nat, i < x.f1.length → rd_L3 (x.f1.map (rd_L3 kinds)) (i : Int) = rd_L3 kinds (rd x.f1 (i : Int)) := fun i hi => by
    rw [rd_get hi]
    conv => lhs; unfold rd_L3
    rw [Int.toNat_natCast, List.getD_eq_getElem?_getD, List.getElem?_map, List.getElem?_eq_getElem hi]; rfl
  by_cases g : 9 ≤ x.f0 ∧ x.f0 ≤ 14
  · have ha := hrow 0 (h1 (by omega))
    rw [show ((0 : Nat) : Int) = 0 from rfl] at ha
    have hR : ofP x kinds = groupP (x.f0 - 9) x.f5 x.f6 (rd_L3 kinds (rd x.f1 0)) := (if_neg (by omega)).trans (if_pos g)
    rw [hR]
    refine Ev.congr (fun k => ?_) (Ev.now _)
    rw [runnelref16_kinds.f, rGroup_is, if_pos g, Option.bind_some, if_pos rfl, rgroup_is _ _ _ _ (by omega) (by omega), ha]
  refine Ev.congr (fun k => by rw [runnelref16_kinds.f, rGroup_is, if_neg g, Option.bind_some, if_neg (by decide), runnelref16_kinds.g]) ?_
  by_cases c0 : x.f0 = 0
  · have hR : ofP x kinds = inputP x.f2 := if_pos c0
    rw [hR]
    refine Ev.congr (fun k => if_pos c0) ?_
    unfold inputP
    by_cases h : (x.f2.length : Int) > 16
    · rw [if_pos h]; exact Ev.congr (fun k => if_pos h) (Ev.now _)
    · rw [if_neg h]
      have e := rinput_loop x.f2 (by omega) x.f2.length 0 (by omega) (by omega)
      rw [List.drop_zero] at e
      exact Ev.congr (fun k => if_neg h) e
  have hR0 := (if_neg c0).trans (if_neg g) (a := ofP x kinds)
  refine Ev.congr (fun k => if_neg c0) ?_
  have ha := hrow 0 (h1 c0)
  rw [show ((0 : Nat) : Int) = 0 from rfl] at ha
  rw [ha]
  have hc := hk (rd x.f1 0)
  generalize hcols : rd_L3 kinds (rd x.f1 0) = cols at hc hR0 ⊢
  by_cases c1 : x.f0 = 1
  · rw [hR0.trans (if_pos c1)]; exact Ev.congr (fun k => if_pos c1) (rmap_is _ _)
  have hR1 := hR0.trans (if_neg c1)
  refine Ev.congr (fun k => if_neg c1) ?_
  by_cases c2 : x.f0 = 2
  · have hR2 := hR1.trans (if_pos c2)
    refine Ev.congr (fun k => if_pos c2) ?_
    by_cases h : (x.f3.length : Int) = 1
    · have hR3 := hR2.trans (if_pos h)
      by_cases z : (mapP x.f3 cols).2 = 0
      · have hm : (mapP x.f3 cols).1.length = x.f3.length := by
          unfold mapP at z ⊢
          rw [if_neg (by omega), if_neg (by omega)] at z ⊢
          exact mapF_ok cols x.f3 z
        have hR4 := hR3.trans (if_pos z)
        by_cases y : rd (mapP x.f3 cols).1 0 = 0
        · rw [hR4.trans (if_pos y)]; exact Ev.congr (fun k => if_pos h) (Ev.bind (rmap_is _ _) (Ev.congr (fun k => (if_pos z).trans ((if_pos (by omega)).trans (if_pos y))) (Ev.now _)))
        · rw [hR4.trans (if_neg y)]; exact Ev.congr (fun k => if_pos h) (Ev.bind (rmap_is _ _) (Ev.congr (fun k => (if_pos z).trans ((if_pos (by omega)).trans (if_neg y))) (Ev.now _)))
      · rw [hR3.trans (if_neg z)]; exact Ev.congr (fun k => if_pos h) (Ev.bind (rmap_is _ _) (Ev.congr (fun k => if_neg z) (Ev.now _)))
    · rw [hR2.trans (if_neg h)]; exact Ev.congr (fun k => if_neg h) (Ev.now _)
  have hR2 := hR1.trans (if_neg c2)
  refine Ev.congr (fun k => if_neg c2) ?_
  by_cases c3 : x.f0 = 3
  · rw [hR2.trans (if_pos c3)]
    refine Ev.congr (fun k => if_pos c3) ?_
    unfold projP
    by_cases h : (x.f4.length : Int) > 16
    · rw [if_pos h]; exact Ev.congr (fun k => if_pos h) (Ev.now _)
    · rw [if_neg h]
      have e := rproj_loop x.f4 cols (by omega) (by omega) x.f4.length 0 [] (by omega) (by omega) (Nat.le_refl _)
      rw [List.drop_zero, List.nil_append, pair_or _ (projF_len cols x.f4).2.2] at e
      exact Ev.congr (fun k => if_neg h) e
  have hR3 := hR2.trans (if_neg c3)
  refine Ev.congr (fun k => if_neg c3) ?_
  by_cases c4 : x.f0 = 4
  · rw [hR3.trans (if_pos c4)]
    refine Ev.congr (fun k => if_pos c4) ?_
    have e := rrows_loop (x.f1.map (rd_L3 kinds)) cols (fun y hy => by obtain ⟨i, _, rfl⟩ := List.mem_map.1 hy; exact hk i) (by rw [List.length_map]; exact hl) _ 0 (by omega) rfl
    rw [List.drop_zero, List.all_map] at e
    exact e
  have hR4 := hR3.trans (if_neg c4)
  refine Ev.congr (fun k => if_neg c4) ?_
  by_cases c7 : x.f0 = 7
  · rw [hR4.trans (if_pos c7)]
    refine Ev.congr (fun k => if_pos c7) ?_
    refine Ev.congr (fun k => by rw [rin_is, Option.bind_some, wpred _ (by omega)]) ?_
    unfold bucketP
    by_cases h : 0 ≤ x.f6 ∧ x.f6 < (cols.length : Int)
    · rw [if_pos h]
      refine Ev.congr (fun k => (if_pos (decide_eq_true ⟨h.1, by omega⟩)).trans ((if_pos h.1).trans (if_pos h.2))) ?_
      by_cases y : rd cols x.f6 = 0
      · rw [if_pos y]
        refine Ev.congr (fun k => if_pos y) ?_
        by_cases z : winP x.f7 x.f8 = 0
        · rw [if_pos z]
          by_cases q : (cols.length : Int) ≥ 16
          · rw [show (if (cols.length : Int) ≥ 16 then (([] : List Int), (3 : Int)) else (cols ++ [0], 0)) = ([], 3) from if_pos q]; exact Ev.bind (rwin_is _ _) (Ev.congr (fun k => (if_pos z).trans (if_pos q)) (Ev.now _))
          · rw [show (if (cols.length : Int) ≥ 16 then (([] : List Int), (3 : Int)) else (cols ++ [0], 0)) = (cols ++ [0], 0) from if_neg q]; exact Ev.bind (rwin_is _ _) (Ev.congr (fun k => (if_pos z).trans (if_neg q)) (Ev.now _))
        · rw [if_neg z]; exact Ev.bind (rwin_is _ _) (Ev.congr (fun k => if_neg z) (Ev.now _))
      · rw [if_neg y]; exact Ev.congr (fun k => if_neg y) (Ev.now _)
    · rw [if_neg h]; exact Ev.congr (fun k => if_neg (by simp only [decide_eq_true_eq]; omega)) (Ev.now _)
  have hR5 := hR4.trans (if_neg c7)
  refine Ev.congr (fun k => if_neg c7) ?_
  by_cases c8 : x.f0 = 8
  · have hR6 := (hR5.trans (if_neg (by omega))).trans (if_pos c8)
    refine Ev.congr (fun k => if_pos c8) ?_
    refine Ev.congr (fun k => by rw [rin_is, Option.bind_some]) ?_
    by_cases h : 0 ≤ x.f5 ∧ x.f5 ≤ (cols.length : Int)
    · rw [hR6.trans (if_pos h)]; exact Ev.congr (fun k => if_pos (decide_eq_true h)) (Ev.now _)
    · rw [hR6.trans (if_neg h)]; exact Ev.congr (fun k => if_neg (by simp only [decide_eq_true_eq]; exact h)) (Ev.now _)
  refine Ev.congr (fun k => if_neg c8) ?_
  by_cases c15 : x.f0 = 15
  · have hb := hrow 1 (h15 c15)
    rw [show ((1 : Nat) : Int) = 1 from rfl] at hb
    rw [hR5.trans (if_pos c15), hb]
    exact Ev.congr (fun k => if_pos c15) (rjoin_is _ _ _ (by omega) (by have := hk (rd x.f1 1); omega))
  · rw [(hR5.trans (if_neg c15)).trans (if_neg c8)]
    exact Ev.congr (fun k => if_neg c15) (Ev.now _)
theorem rins_loop (l : List Int) (kd : List (List Int)) (hl : l.length ≤ 100) (hin : ∀ p ∈ l, 0 ≤ p ∧ p < (kd.length : Int)) (d : Nat) : ∀ (i : Nat) (acc : List (List Int)), i ≤ l.length → l.length - i = d → acc.length ≤ i → Ev (fun k => runnelref16_All.l2 k l kd acc (i : Int)) (acc ++ (l.drop i).map (rd_L3 kd)) := by
  induction d with
  | zero =>
    intro i acc hi hd ha
    rw [List.drop_eq_nil_of_le (by omega), List.map_nil, List.append_nil]
    exact Ev.step (fun k => by rw [runnelref16_All.l2, if_neg (by omega)]) (Ev.now _)
  | succ d ih =>
    intro i acc hi hd ha
    have hlt : i < l.length := by omega
    rw [List.drop_eq_getElem_cons hlt, List.map_cons, show acc ++ rd_L3 kd l[i] :: (l.drop (i + 1)).map (rd_L3 kd) = (acc ++ [rd_L3 kd l[i]]) ++ (l.drop (i + 1)).map (rd_L3 kd) from by simp]
    have hr := rd_get hlt
    have hp := hin _ (List.getElem_mem hlt)
    exact Ev.step (fun k => by rw [runnelref16_All.l2, if_pos (by omega), if_pos (by omega), hr, if_pos hp.1, if_pos hp.2, if_pos (by omega), wnext i (by omega)]) (ih (i + 1) _ (by omega) (by omega) (by rw [List.length_append]; simp; omega))
theorem rloop_some (nodes : List S42) (hs : Sound nodes) (outs : List Int) (room : Int) (a : Nat) (ha : a < nodes.length) (h : Path nodes (a : Int) (a : Int)) (hb : ∀ j : Nat, j < a → ¬ Path nodes (j : Int) (j : Int)) (d : Nat) : ∀ (i : Nat), i + d = a → Ev (fun k => runnelref16_All.l0 k nodes outs room (i : Int)) (160, (a : Int)) := by
  have hn := hs.few
  induction d with
  | zero =>
    intro i hi
    obtain rfl : i = a := by omega
    obtain ⟨s, e, hl, hp⟩ := steps_is nodes hs outs room (i : Int) (by omega) (by omega)
    exact Ev.step (fun k => by rw [runnelref16_All.l0, if_pos (by omega)]) (Ev.bind e (Ev.congr (fun k => (if_pos (show (0 : Int) ≤ (i : Int) by omega)).trans ((if_pos (show (i : Int) < (s.length : Int) by omega)).trans (if_pos (hp.2 h)))) (Ev.now _)))
  | succ d ih =>
    intro i hi
    obtain ⟨s, e, hl, hp⟩ := steps_is nodes hs outs room (i : Int) (by omega) (by omega)
    refine Ev.step (fun k => by rw [runnelref16_All.l0, if_pos (by omega)]) (Ev.bind e (Ev.congr (fun k => (if_pos (show (0 : Int) ≤ (i : Int) by omega)).trans ((if_pos (show (i : Int) < (s.length : Int) by omega)).trans (if_neg (fun t => hb i (by omega) (hp.1 t))))) ?_))
    rw [wnext i (by omega)]
    exact ih (i + 1) (by omega)
theorem rloop_none (nodes : List S42) (hs : Sound nodes) (outs : List Int) (room : Int) (hb : ∀ j : Nat, j < nodes.length → ¬ Path nodes (j : Int) (j : Int)) (d : Nat) : ∀ (i : Nat), i + d = nodes.length → Ev (fun k => runnelref16_All.l0 k nodes outs room (i : Int)) (0, 0) := by
  have hn := hs.few
  induction d with
  | zero =>
    intro i hi
    exact Ev.step (fun k => by rw [runnelref16_All.l0, if_neg (by omega)]) (Ev.now _)
  | succ d ih =>
    intro i hi
    obtain ⟨s, e, hl, hp⟩ := steps_is nodes hs outs room (i : Int) (by omega) (by omega)
    refine Ev.step (fun k => by rw [runnelref16_All.l0, if_pos (by omega)]) (Ev.bind e (Ev.congr (fun k => (if_pos (show (0 : Int) ≤ (i : Int) by omega)).trans ((if_pos (show (i : Int) < (s.length : Int) by omega)).trans (if_neg (fun t => hb i (by omega) (hp.1 t))))) ?_))
    rw [wnext i (by omega)]
    exact ih (i + 1) (by omega)
theorem ofP_few (x : S42) (nodes : List S42) (kinds : List (List Int)) (q : Nat) (hq : q < nodes.length) (hx : rd_T42 nodes (q : Int) = x) (hz : nodeErr (nodes.length : Int) x = 0) (hkl : kinds.length = nodes.length) (hr : ∀ i : Int, (rd_L3 kinds i).length ≤ 16) : Few (ofP x kinds) := by
  subst hx
  have er := err_none hz
  have fw := ins_few er.1
  exact (of_is nodes kinds q hq (fun h => by have := fw.2.1 h; omega) (fun h => by have := fw.2.2 h; omega) (by have := fw.1; omega) (fun c hc => by have := er.2 c hc; omega) hr).2
theorem rall_loop (nodes : List S42) (_ : Sound nodes) (hz : ∀ j : Nat, j < nodes.length → nodeErr (nodes.length : Int) (rd_T42 nodes (j : Int)) = 0) (l : List Int) (hl : l.length ≤ 100) (hin : ∀ p ∈ l, 0 ≤ p ∧ p < (nodes.length : Int)) (d : Nat) : ∀ (i : Nat) (kinds : List (List Int)), i ≤ l.length → l.length - i = d → kinds.length = nodes.length → (∀ i : Int, (rd_L3 kinds i).length ≤ 16) →
    Ev (fun k => runnelref16_All.l1 k nodes l kinds (i : Int)) (allF nodes (l.drop i) kinds) := by
  induction d with
  | zero =>
    intro i kinds hi hd hk hr
    rw [List.drop_eq_nil_of_le (by omega), allF]
    exact Ev.step (fun k => by rw [runnelref16_All.l1, if_neg (by omega)]) (Ev.now _)
  | succ d ih =>
    intro i kinds hi hd hk hr
    have hlt : i < l.length := by omega
    rw [List.drop_eq_getElem_cons hlt, allF]
    have hg := rd_get hlt
    obtain ⟨p0, p1⟩ := hin _ (List.getElem_mem hlt)
    generalize l[i] = p at hg p0 p1 ⊢
    obtain ⟨q, rfl⟩ : ∃ q : Nat, p = (q : Int) := ⟨p.toNat, by omega⟩
    have er := err_none (hz q (by omega))
    have fw := ins_few er.1
    have f := ofP_few _ nodes kinds q (by omega) rfl (hz q (by omega)) hk hr
    have e1 := rins_loop (rd_T42 nodes (q : Int)).f1 kinds (by have := fw.1; omega) (fun c hc => by have := er.2 c hc; omega) _ 0 [] (by omega) rfl (Nat.le_refl _)
    rw [List.drop_zero, List.nil_append] at e1
    have e := rkinds_is (rd_T42 nodes (q : Int)) kinds (fun h => by have := fw.2.1 h; omega) (fun h => by have := fw.2.2 h; omega) (by have := fw.1; omega) hr
    have st : ∀ k, runnelref16_All.l1 (k + 1) nodes l kinds (i : Int) = (runnelref16_All.l2 k (rd_T42 nodes (q : Int)).f1 kinds [] ((0 : Nat) : Int)).bind fun ins => ((runnelref16_kinds.f k (rd_T42 nodes (q : Int)).f0 (rd_T42 nodes (q : Int)).f1 (rd_T42 nodes (q : Int)).f2 (rd_T42 nodes (q : Int)).f3 (rd_T42 nodes (q : Int)).f4 (rd_T42 nodes (q : Int)).f5 (rd_T42 nodes (q : Int)).f6 (rd_T42 nodes (q : Int)).f7 (rd_T42 nodes (q : Int)).f8 (rd_L3 ins 0) (rd_L3 ins 1) ins).bind fun r => (if r.2 = 0 then (if (q : Int) < (kinds.length : Int) then (runnelref16_All.l1 k nodes l (kinds.set (q : Int).toNat r.1) ((i + 1 : Nat) : Int)) else none) else some (([] : List (List Int)), r.2, (q : Int)))) := fun k => by
      rw [runnelref16_All.l1, if_pos (by omega), if_pos (by omega), hg, if_pos p0, if_pos p1, wnext i (by omega)]; rfl
    by_cases z : (ofP (rd_T42 nodes (q : Int)) kinds).2 = 0
    · rw [if_pos z]
      refine Ev.step st (Ev.bind e1 (Ev.bind e ?_))
      refine Ev.congr (fun k => (if_pos z).trans (if_pos (by omega))) ?_
      exact ih (i + 1) _ (by omega) (by omega) (by rw [List.length_set]; exact hk) (rows_set hr _ f.1)
    · rw [if_neg z]
      exact Ev.step st (Ev.bind e1 (Ev.bind e (Ev.congr (fun k => if_neg z) (Ev.now _))))
theorem zero_rows (n : Nat) : ∀ i : Int, (rd_L3 (List.replicate n ([] : List Int)) i).length ≤ 16 := fun i => by
  unfold rd_L3
  rw [List.getD_eq_getElem?_getD, List.getElem?_replicate]
  split <;> simp
theorem rall_is (nodes : List S42) (outs : List Int) (room : Int) (hn : nodes.length ≤ 70) (ho : outs.length ≤ 20) (hlen : ∀ j : Nat, j < nodes.length → (rd_T42 nodes (j : Int)).f1.length ≤ 20) (loop : Option Nat) (hloop : wholeP nodes outs room = 0 → (shapeF nodes 0 nodes.length).1 = 0 → LoopAt nodes loop) (hord : wholeP nodes outs room = 0 → (shapeF nodes 0 nodes.length).1 = 0 → loop = none → Orderly nodes (List.replicate nodes.length false) (orderF nodes nodes.length (List.replicate nodes.length false))) :
    Ev (fun k => runnelref16_All.f k nodes outs room) (allP nodes outs room loop) := by
  have e0 := rshape_is nodes outs room hn ho hlen
  unfold allP
  by_cases a : wholeP nodes outs room = 0
  · rw [if_pos a] at e0
    rw [if_neg (not_not_intro a)]
    by_cases b : (shapeF nodes 0 nodes.length).1 = 0
    · rw [if_pos b] at e0
      rw [if_neg (not_not_intro b)]
      have hz := (shapeF_ok nodes nodes.length 0).2 b
      have hz' : ∀ j : Nat, j < nodes.length → nodeErr (nodes.length : Int) (rd_T42 nodes (j : Int)) = 0 := fun j hj => hz j (by omega) (by omega)
      have hs := sound_of nodes hn hz'
      refine Ev.bind e0 (Ev.congr (fun k => if_pos rfl) ?_)
      cases loop with
      | some v =>
        obtain ⟨v1, v2, v3⟩ := hloop a b
        exact Ev.bind (rloop_some nodes hs outs room v v1 v2 v3 v 0 (by omega)) (Ev.congr (fun k => if_neg (by simp)) (Ev.now _))
      | none =>
        have hc := hloop a b
        have v3 := hord a b rfl
        refine Ev.bind (rloop_none nodes hs outs room hc nodes.length 0 (by omega)) (Ev.congr (fun k => if_pos rfl) ?_)
        have hin := orderly_in nodes _ _ v3
        have hl := orderF_len nodes nodes.length (List.replicate nodes.length false)
        have t1 := rall_loop nodes hs hz' _ (by rw [hl]; omega) hin _ 0 (List.replicate nodes.length []) (by omega) rfl (by simp) (zero_rows _)
        rw [List.drop_zero] at t1
        refine Ev.bind (rorder_all nodes hs outs room hc) (Ev.congr (fun k => if_pos (by omega)) ?_)
        show Ev _ (if (allF nodes (orderF nodes nodes.length (List.replicate nodes.length false)) (List.replicate nodes.length [])).2.1 = 0 then _ else _)
        by_cases z : (allF nodes (orderF nodes nodes.length (List.replicate nodes.length false)) (List.replicate nodes.length [])).2.1 = 0
        · rw [if_pos z]; exact Ev.bind t1 (Ev.congr (fun k => if_pos z) (Ev.now _))
        · rw [if_neg z]; exact Ev.bind t1 (Ev.congr (fun k => if_neg z) (Ev.now _))
    · rw [if_neg b] at e0
      rw [if_pos b]
      exact Ev.bind e0 (Ev.congr (fun k => if_neg b) (Ev.now _))
  · rw [if_neg a] at e0
    rw [if_pos a]
    exact Ev.bind e0 (Ev.congr (fun k => if_neg a) (Ev.now _))
theorem code_is (a : Int) : runnellaw16_code.f a = some a := rfl
theorem rows_same (kd : List (List Int)) (hk : ∀ i : Int, (rd_L3 kd i).length ≤ 10000) (hl : kd.length ≤ 100) (d : Nat) : ∀ (i : Nat), i ≤ kd.length → kd.length - i = d → Ev (fun k => runnellaw16_PlanChecks.l0 k kd kd (i : Int)) true := by
  induction d with
  | zero =>
    intro i hi hd
    exact Ev.step (fun k => by rw [runnellaw16_PlanChecks.l0, if_neg (by omega)]) (Ev.bind live_is (Ev.now _))
  | succ d ih =>
    intro i hi hd
    exact Ev.step (fun k => by rw [runnellaw16_PlanChecks.l0, if_pos (by omega), if_pos (by omega), if_pos (by omega), wnext i (by omega)]) (Ev.bind (same_is _ (hk i)) (Ev.congr (fun k => if_pos rfl) (ih (i + 1) (by omega) (by omega))))
theorem allF_few (nodes : List S42) (hz : ∀ j : Nat, j < nodes.length → nodeErr (nodes.length : Int) (rd_T42 nodes (j : Int)) = 0) : ∀ (l : List Int) (kinds : List (List Int)), (∀ p ∈ l, 0 ≤ p ∧ p < (nodes.length : Int)) → kinds.length = nodes.length → (∀ i : Int, (rd_L3 kinds i).length ≤ 16) → (allF nodes l kinds).1.length ≤ nodes.length ∧ ∀ i : Int, (rd_L3 (allF nodes l kinds).1 i).length ≤ 16
  | [], kinds, _, hk, hr => by rw [allF]; exact ⟨Nat.le_of_eq hk, hr⟩
  | p :: l, kinds, hin, hk, hr => by
    rw [allF]
    obtain ⟨p0, p1⟩ := hin p List.mem_cons_self
    split
    · have f := ofP_few (rd_T42 nodes p) nodes kinds p.toNat (by omega) (by rw [Int.toNat_of_nonneg p0]) (by have := hz p.toNat (by omega); rw [Int.toNat_of_nonneg p0] at this; exact this) hk hr
      exact allF_few nodes hz l _ (fun q hq => hin q (List.mem_cons_of_mem _ hq)) (by rw [List.length_set]; exact hk) (rows_set hr _ f.1)
    · refine ⟨by simp, fun i => ?_⟩
      unfold rd_L3; simp
theorem allP_few (nodes : List S42) (outs : List Int) (room : Int) (hn : nodes.length ≤ 70) (loop : Option Nat) (hord : wholeP nodes outs room = 0 → (shapeF nodes 0 nodes.length).1 = 0 → loop = none → Orderly nodes (List.replicate nodes.length false) (orderF nodes nodes.length (List.replicate nodes.length false))) : (allP nodes outs room loop).1.length ≤ 100 ∧ (allP nodes outs room loop).2.1.length ≤ 100 ∧ ∀ i : Int, (rd_L3 (allP nodes outs room loop).2.1 i).length ≤ 16 := by
  have hnil : ∀ i : Int, (rd_L3 ([] : List (List Int)) i).length ≤ 16 := fun i => by unfold rd_L3; simp
  unfold allP
  by_cases a : wholeP nodes outs room = 0
  · rw [if_neg (not_not_intro a)]
    by_cases b : (shapeF nodes 0 nodes.length).1 = 0
    · rw [if_neg (not_not_intro b)]
      cases loop with
      | some v => exact ⟨by simp, by simp, hnil⟩
      | none =>
        have hz := (shapeF_ok nodes nodes.length 0).2 b
        have hin := orderly_in nodes _ _ (hord a b rfl)
        have hl := orderF_len nodes nodes.length (List.replicate nodes.length false)
        have f := allF_few nodes (fun j hj => hz j (by omega) (by omega)) _ (List.replicate nodes.length []) hin (by simp) (zero_rows _)
        show (if (allF nodes (orderF nodes nodes.length (List.replicate nodes.length false)) (List.replicate nodes.length [])).2.1 = 0 then _ else _ : List Int × List (List Int) × Int × Int).1.length ≤ 100 ∧ (if (allF nodes (orderF nodes nodes.length (List.replicate nodes.length false)) (List.replicate nodes.length [])).2.1 = 0 then _ else _ : List Int × List (List Int) × Int × Int).2.1.length ≤ 100 ∧ ∀ i : Int, (rd_L3 (if (allF nodes (orderF nodes nodes.length (List.replicate nodes.length false)) (List.replicate nodes.length [])).2.1 = 0 then _ else _ : List Int × List (List Int) × Int × Int).2.1 i).length ≤ 16
        split
        · exact ⟨by show (orderF _ _ _).length ≤ 100; omega, by have := f.1; show (allF _ _ _).1.length ≤ 100; omega, f.2⟩
        · exact ⟨by simp, by simp, hnil⟩
    · rw [if_pos b]; exact ⟨by simp, by simp, hnil⟩
  · rw [if_pos a]; exact ⟨by simp, by simp, hnil⟩
theorem PlanChecks : runnellaw16_PlanChecks.Pure := by
  intro nodes outs room _
  refine Ev.rounds (g := fun k => runnellaw16_PlanChecks.f k nodes outs room) ?_
  rcases plong_is nodes outs room with h | ⟨hn, ho, hok, h⟩
  · exact Ev.bind h (Ev.congr (fun k => if_pos rfl) (Ev.bind live_is (Ev.now _)))
  obtain ⟨loop, e, h1, _⟩ := all_is nodes outs room hn ho
  have hlen : ∀ j : Nat, j < nodes.length → (rd_T42 nodes (j : Int)).f1.length ≤ 20 := fun j hj => (hok j hj).ins
  have e2 := rall_is nodes outs room hn ho hlen loop (fun a b => (h1 a b).1) (fun a b => (h1 a b).2.2)
  obtain ⟨f1, f2, f3⟩ := allP_few nodes outs room hn loop (fun a b => (h1 a b).2.2)
  generalize allP nodes outs room loop = r at e e2 f1 f2 f3
  obtain ⟨l, kd, c, p⟩ := r
  dsimp only at f1 f2 f3
  refine Ev.bind h (Ev.congr (fun k => if_neg (by decide)) ?_)
  refine Ev.bind (Ev.bind e (Ev.now (c, p))) (Ev.bind (Ev.bind e (Ev.now (l, c))) (Ev.bind (Ev.bind e (Ev.now (kd, c))) (Ev.bind e2 ?_)))
  have st : ∀ k, (((runnellaw16_code.f c).bind fun t240 => (if t240 = c then (if p = p then ((runnellaw16_code.f c).bind fun t241 => (if t241 = c then ((runnellaw16_code.f c).bind fun t242 => (if t242 = c then ((runnelref16_Same.f k l l).bind fun t243 => (if t243 = true then (runnellaw16_PlanChecks.j0 k kd kd ((kd.length : Int) != (kd.length : Int))) else (runnellaw16_PlanChecks.j0 k kd kd true))) else (runnellaw16_PlanChecks.j0 k kd kd true))) else (runnellaw16_PlanChecks.j0 k kd kd true))) else (runnellaw16_PlanChecks.j0 k kd kd true)) else (runnellaw16_PlanChecks.j0 k kd kd true)))) = (runnelref16_Same.f k l l).bind fun t243 => (if t243 = true then (runnellaw16_PlanChecks.j0 k kd kd ((kd.length : Int) != (kd.length : Int))) else (runnellaw16_PlanChecks.j0 k kd kd true)) := fun k => by
    simp only [code_is, Option.bind_some, if_true]
  refine Ev.congr st (Ev.bind (same_is l (by omega)) (Ev.congr (fun k => if_pos rfl) ?_))
  refine Ev.step (fun k => by rw [show ((kd.length : Int) != (kd.length : Int)) = false from by simp, runnellaw16_PlanChecks.j0, if_neg (by decide)]) ?_
  exact rows_same kd (fun i => by have := f3 i; omega) f2 kd.length 0 (by omega) (by omega)

end Go.Proofs.Ytdkkollonlmelaa.Pure
