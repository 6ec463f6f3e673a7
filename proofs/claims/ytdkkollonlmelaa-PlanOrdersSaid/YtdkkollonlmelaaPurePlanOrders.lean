/- For every plan, in order each node comes once, behind its ins; and where ins have lower numbers there is no loop. No condition beyond the statement's own. -/
import Derived.Test.YtdkkollonlmelaaQPlanOrdersx12
namespace Go.Proofs.Ytdkkollonlmelaa.Pure
open Go.RowKit Go.Proofs.Ytdkkollonlmelaa.QPlanOrders Go.Proofs.YtdkkollonlmelaaW.PrintWords Go.Proofs.YtdkkollonlmelaaW.PrintLast

theorem w64 {x : Int} (h : -9223372036854775808 ≤ x ∧ x ≤ 9223372036854775807) : wrap64 x = x := by unfold wrap64; omega
/-- Never as a hypothesis: omega runs away over two of them. -/
theorem wnext (i : Nat) (h : i ≤ 1000000) : wrap64 ((i : Int) + 1) = ((i + 1 : Nat) : Int) := by rw [w64 (by omega)]; rfl
theorem xlong_loop (l : List S128) (hl : (l.length : Int) ≤ 1000) (d : Nat) : ∀ (i : Nat), i ≤ l.length → l.length - i = d → ∃ b, Ev (fun k => runnelref08_Long.l0 k l (i : Int)) b := by
  induction d with
  | zero =>
    intro i hi hd
    exact ⟨false, Ev.step (fun k => by rw [runnelref08_Long.l0, if_neg (by omega)]) (Ev.now _)⟩
  | succ d ih =>
    intro i hi hd
    by_cases h : ((rd_T128 l (i : Int)).f2.size : Int) > 5000
    · exact ⟨true, Ev.step (fun k => by rw [runnelref08_Long.l0, if_pos (by omega), if_pos (by omega), if_pos h]) (Ev.now _)⟩
    · obtain ⟨b, hb⟩ := ih (i + 1) (by omega) (by omega)
      exact ⟨b, Ev.step (fun k => by rw [runnelref08_Long.l0, if_pos (by omega), if_pos (by omega), if_neg h, wnext i (by omega)]) hb⟩
theorem xlong_is (l : List S128) : (Ev (fun k => runnelref08_Long.f k l) true) ∨ ((l.length : Int) ≤ 80 ∧ Ev (fun k => runnelref08_Long.f k l) false) := by
  unfold runnelref08_Long.f
  by_cases h : (l.length : Int) > 80
  · exact .inl (Ev.congr (fun k => if_pos h) (Ev.now _))
  · obtain ⟨b, hb⟩ := xlong_loop l (by omega) l.length 0 (by omega) (by omega)
    cases b with
    | true => exact .inl (Ev.congr (fun k => if_neg h) hb)
    | false => exact .inr ⟨by omega, Ev.congr (fun k => if_neg h) hb⟩
/-- What Long lets in, of one node. -/
structure NodeOk (x : S42) : Prop where
  ins : x.f1.length ≤ 20
  kinds : x.f2.length ≤ 30
  exprs : x.f3.length ≤ 30
  cols : x.f4.length ≤ 30
  each : ∀ q : Nat, q < x.f3.length → ((rd_L4 x.f3 (q : Int)).length : Int) ≤ 80
theorem plong_exprs (nodes : List S42) (outs : List Int) (room : Int) (i : Nat) (hi : i ≤ 100) (f0 : Int) (f1 f2 : List Int) (f3 : List (List S128)) (f4 : List Int) (f5 f6 f7 f8 : Int) (h3 : f3.length ≤ 30) (d : Nat) : ∀ (p : Nat), p ≤ f3.length → f3.length - p = d →
    Ev (fun k => runnelref16_Long.l1 k (i : Int) (p : Int) nodes outs room f0 f1 f2 f3 f4 f5 f6 f7 f8) true ∨ ((∀ q : Nat, p ≤ q → q < f3.length → ((rd_L4 f3 (q : Int)).length : Int) ≤ 80) ∧ ∀ b, Ev (fun k => runnelref16_Long.l0 k ((i + 1 : Nat) : Int) nodes outs room) b → Ev (fun k => runnelref16_Long.l1 k (i : Int) (p : Int) nodes outs room f0 f1 f2 f3 f4 f5 f6 f7 f8) b) := by
  induction d with
  | zero =>
    intro p hp hd
    exact .inr ⟨fun q h1 h2 => by omega, fun b hb => Ev.step (fun k => by rw [runnelref16_Long.l1, if_neg (by omega), wnext i (by omega)]) hb⟩
  | succ d ih =>
    intro p hp hd
    have st : ∀ k, runnelref16_Long.l1 (k + 1) (i : Int) (p : Int) nodes outs room f0 f1 f2 f3 f4 f5 f6 f7 f8 = (runnelref08_Long.f k (rd_L4 f3 (p : Int))).bind fun t => if t = true then some true else runnelref16_Long.l1 k (i : Int) ((p + 1 : Nat) : Int) nodes outs room f0 f1 f2 f3 f4 f5 f6 f7 f8 := fun k => by rw [runnelref16_Long.l1, if_pos (by omega), if_pos (by omega), wnext p (by omega)]
    rcases xlong_is (rd_L4 f3 (p : Int)) with h | ⟨hle, h⟩
    · exact .inl (Ev.step st (Ev.bind h (Ev.congr (fun k => if_pos rfl) (Ev.now _))))
    · rcases ih (p + 1) (by omega) (by omega) with h2 | ⟨h2, h2'⟩
      · exact .inl (Ev.step st (Ev.bind h (Ev.congr (fun k => if_neg (by decide)) h2)))
      · refine .inr ⟨fun q h3 h4 => ?_, fun b hb => Ev.step st (Ev.bind h (Ev.congr (fun k => if_neg (by decide)) (h2' b hb)))⟩
        rcases Nat.eq_or_lt_of_le h3 with rfl | h5
        · exact hle
        · exact h2 q h5 h4
theorem plong_loop (nodes : List S42) (outs : List Int) (room : Int) (hn : nodes.length ≤ 70) (d : Nat) : ∀ (i : Nat), i ≤ nodes.length → nodes.length - i = d →
    Ev (fun k => runnelref16_Long.l0 k (i : Int) nodes outs room) true ∨ ((∀ j : Nat, i ≤ j → j < nodes.length → NodeOk (rd_T42 nodes (j : Int))) ∧ Ev (fun k => runnelref16_Long.l0 k (i : Int) nodes outs room) false) := by
  induction d with
  | zero =>
    intro i hi hd
    exact .inr ⟨fun j h1 h2 => by omega, Ev.step (fun k => by rw [runnelref16_Long.l0, if_neg (by omega)]) (Ev.now _)⟩
  | succ d ih =>
    intro i hi hd
    have bad : ∀ k, runnelref16_Long.j2 (k + 1) (i : Int) true nodes outs room (rd_T42 nodes (i : Int)).f0 (rd_T42 nodes (i : Int)).f1 (rd_T42 nodes (i : Int)).f2 (rd_T42 nodes (i : Int)).f3 (rd_T42 nodes (i : Int)).f4 (rd_T42 nodes (i : Int)).f5 (rd_T42 nodes (i : Int)).f6 (rd_T42 nodes (i : Int)).f7 (rd_T42 nodes (i : Int)).f8 = some true := fun k => by rw [runnelref16_Long.j2, if_pos rfl]
    by_cases h1 : ((rd_T42 nodes (i : Int)).f1.length : Int) > 20
    · exact .inl (Ev.step (fun k => by rw [runnelref16_Long.l0, if_pos (by omega), if_pos (by omega), if_pos h1]) (Ev.step bad (Ev.now _)))
    by_cases h2 : ((rd_T42 nodes (i : Int)).f2.length : Int) > 30
    · exact .inl (Ev.step (fun k => by rw [runnelref16_Long.l0, if_pos (by omega), if_pos (by omega), if_neg h1, if_pos h2]) (Ev.step bad (Ev.now _)))
    by_cases h3 : ((rd_T42 nodes (i : Int)).f3.length : Int) > 30
    · exact .inl (Ev.step (fun k => by rw [runnelref16_Long.l0, if_pos (by omega), if_pos (by omega), if_neg h1, if_neg h2, if_pos h3]) (Ev.step bad (Ev.now _)))
    by_cases h4 : ((rd_T42 nodes (i : Int)).f4.length : Int) > 30
    · exact .inl (Ev.step (fun k => by rw [runnelref16_Long.l0, if_pos (by omega), if_pos (by omega), if_neg h1, if_neg h2, if_neg h3, decide_eq_true h4]) (Ev.step bad (Ev.now _)))
    have st : ∀ b, Ev (fun k => runnelref16_Long.l1 k (i : Int) ((0 : Nat) : Int) nodes outs room (rd_T42 nodes (i : Int)).f0 (rd_T42 nodes (i : Int)).f1 (rd_T42 nodes (i : Int)).f2 (rd_T42 nodes (i : Int)).f3 (rd_T42 nodes (i : Int)).f4 (rd_T42 nodes (i : Int)).f5 (rd_T42 nodes (i : Int)).f6 (rd_T42 nodes (i : Int)).f7 (rd_T42 nodes (i : Int)).f8) b → Ev (fun k => runnelref16_Long.l0 k (i : Int) nodes outs room) b := fun b hb =>
      Ev.step (fun k => by rw [runnelref16_Long.l0, if_pos (by omega), if_pos (by omega), if_neg h1, if_neg h2, if_neg h3, decide_eq_false h4]) (Ev.step (fun k => by rw [runnelref16_Long.j2, if_neg (by decide)]; rfl) hb)
    rcases plong_exprs nodes outs room i (by omega) (rd_T42 nodes (i : Int)).f0 (rd_T42 nodes (i : Int)).f1 (rd_T42 nodes (i : Int)).f2 (rd_T42 nodes (i : Int)).f3 (rd_T42 nodes (i : Int)).f4 (rd_T42 nodes (i : Int)).f5 (rd_T42 nodes (i : Int)).f6 (rd_T42 nodes (i : Int)).f7 (rd_T42 nodes (i : Int)).f8 (by omega) _ 0 (by omega) rfl with h5 | ⟨h5, h5'⟩
    · exact .inl (st _ h5)
    · rcases ih (i + 1) (by omega) (by omega) with h6 | ⟨h6, h6'⟩
      · exact .inl (st _ (h5' _ h6))
      · refine .inr ⟨fun j h7 h8 => ?_, st _ (h5' _ h6')⟩
        rcases Nat.eq_or_lt_of_le h7 with rfl | h9
        · exact ⟨by omega, by omega, by omega, by omega, fun q hq => h5 q (by omega) hq⟩
        · exact h6 j h9 h8
theorem plong_is (nodes : List S42) (outs : List Int) (room : Int) : Ev (fun k => runnelref16_Long.f k nodes outs room) true ∨ (nodes.length ≤ 70 ∧ outs.length ≤ 20 ∧ (∀ j : Nat, j < nodes.length → NodeOk (rd_T42 nodes (j : Int))) ∧ Ev (fun k => runnelref16_Long.f k nodes outs room) false) := by
  unfold runnelref16_Long.f
  by_cases h1 : (nodes.length : Int) > 70
  · exact .inl (Ev.congr (fun k => if_pos h1) (Ev.step (fun k => by rw [runnelref16_Long.j0, if_pos rfl]) (Ev.now _)))
  by_cases h2 : (outs.length : Int) > 20
  · exact .inl (Ev.congr (fun k => by rw [if_neg h1, decide_eq_true h2]) (Ev.step (fun k => by rw [runnelref16_Long.j0, if_pos rfl]) (Ev.now _)))
  have st : ∀ b, Ev (fun k => runnelref16_Long.l0 k ((0 : Nat) : Int) nodes outs room) b → Ev (fun k => if (nodes.length : Int) > 70 then runnelref16_Long.j0 k true nodes outs room else runnelref16_Long.j0 k (decide ((outs.length : Int) > 20)) nodes outs room) b := fun b hb =>
    Ev.congr (fun k => by rw [if_neg h1, decide_eq_false h2]) (Ev.step (fun k => by rw [runnelref16_Long.j0, if_neg (by decide)]; rfl) hb)
  rcases plong_loop nodes outs room (by omega) _ 0 (by omega) rfl with h | ⟨h, h'⟩
  · exact .inl (st _ h)
  · exact .inr ⟨by omega, by omega, fun j hj => h j (by omega) hj, st _ h'⟩
theorem live_is : Ev (fun k => runnellaw16_live.f k) true := by
  have h : runnellaw16_live.f 60 = some true := by decide +kernel
  exact Ev.of (fun k => runnellaw16_live.mono k) h
/-- How many values a step takes. -/
def arP (o : Int) : Int := if o = 0 ∨ o = 1 ∨ o = 2 then 0 else if o = 8 ∨ o = 11 ∨ o = 15 then 1 else if o = 14 then 3 else 2
/-- The kind of what a step makes of others, and whether it takes such. -/
def madeP (o : Int) (l : List Int) : Int × Bool :=
  if o = 9 ∨ o = 10 then (0, rd l 0 == rd l 1) else if o = 17 ∨ o = 18 then (rd l 0, rd l 0 == rd l 1)
  else if o = 14 then (if rd l 0 = 0 then (rd l 1, rd l 1 == rd l 2) else (rd l 1, false))
  else if o = 15 then (0, l.all (fun k => k == 1)) else if o = 16 then (1, l.all (fun k => k == 1)) else (0, l.all (fun k => k == 0))
theorem arity_is (k : Nat) (o : Int) : expr_arity.f (k + 2) o = some (arP o) := by
  unfold expr_arity.f arP
  by_cases h0 : o = 0
  · subst h0; simp [expr_arity.j0]
  by_cases h1 : o = 1
  · subst h1; simp [expr_arity.j0]
  by_cases h2 : o = 2
  · subst h2; simp [expr_arity.j0]
  by_cases h8 : o = 8
  · subst h8; simp [expr_arity.j0, expr_arity.j1]
  by_cases h11 : o = 11
  · subst h11; simp [expr_arity.j0, expr_arity.j1]
  by_cases h15 : o = 15
  · subst h15; simp [expr_arity.j0, expr_arity.j1]
  by_cases h14 : o = 14
  · subst h14; simp [expr_arity.j0, expr_arity.j1]
  simp [expr_arity.j0, expr_arity.j1, h0, h1, h2, h8, h11, h14, h15]
theorem made_is (k : Nat) (o : Int) (l : List Int) (h : (l.length : Int) = arP o) : expr_made.f (k + 2) o l = some (madeP o l) := by
  unfold expr_made.f madeP
  by_cases h9 : o = 9
  · subst h9
    have hl : (l.length : Int) = 2 := h
    simp [expr_made.j0, hl]
  by_cases h10 : o = 10
  · subst h10
    have hl : (l.length : Int) = 2 := h
    simp [expr_made.j0, hl]
  by_cases h17 : o = 17
  · subst h17
    have hl : (l.length : Int) = 2 := h
    simp [expr_made.j0, expr_made.j1, hl]
  by_cases h18 : o = 18
  · subst h18
    have hl : (l.length : Int) = 2 := h
    simp [expr_made.j0, expr_made.j1, hl]
  by_cases h14 : o = 14
  · subst h14
    have hl : (l.length : Int) = 3 := h
    simp [expr_made.j0, expr_made.j1, hl]
    split <;> rfl
  by_cases h15 : o = 15
  · subst h15; simp [expr_made.j0, expr_made.j1, expr_all.f]
  by_cases h16 : o = 16
  · subst h16; simp [expr_made.j0, expr_made.j1, expr_all.f]
  simp [expr_made.j0, expr_made.j1, expr_all.f, h9, h10, h17, h18, h14, h15, h16]
/-- A step of the kinds: its error, and the stack. -/
def stepP (cols : List Int) (o n : Int) (s : ByteArray) (st : List Int) : Int × List Int :=
  if o = 0 then (if n < 0 then (9, st) else if n ≥ (cols.length : Int) then (9, st) else pushS (rd cols n) st)
  else if o = 2 then (if (s.size : Int) > 4096 then (2, st) else pushS 1 st)
  else if o = 1 then pushS 0 st
  else if o < 0 then (8, st) else if o ≥ 19 then (8, st)
  else if (st.length : Int) < arP o then (6, st) else if (madeP o (st.drop ((st.length : Int) - arP o).toNat)).2 = true then pushS (madeP o (st.drop ((st.length : Int) - arP o).toNat)).1 (st.take ((st.length : Int) - arP o).toNat) else (80, st)
theorem arP_nonneg (o : Int) : 0 ≤ arP o ∧ arP o ≤ 3 := by
  unfold arP
  repeat' split
  all_goals omega
theorem step_is' (k : Nat) (cols : List Int) (o n : Int) (s : ByteArray) (st : List Int) : stepS (k + 2) cols o n s st = some (stepP cols o n s st) := by
  unfold stepS stepP
  have ha := arP_nonneg o
  by_cases o0 : o = 0
  · rw [if_pos o0, if_pos o0]; repeat' split
    all_goals rfl
  rw [if_neg o0, if_neg o0]
  by_cases o2 : o = 2
  · rw [if_pos o2, if_pos o2]; repeat' split
    all_goals rfl
  rw [if_neg o2, if_neg o2]
  by_cases o1 : o = 1
  · rw [if_pos o1, if_pos o1]
  rw [if_neg o1, if_neg o1]
  by_cases ol : o < 0
  · rw [if_pos ol, if_pos ol]
  rw [if_neg ol, if_neg ol]
  by_cases oh : o ≥ 19
  · rw [if_pos oh, if_pos oh]
  rw [if_neg oh, if_neg oh, arity_is]
  simp only [Option.bind_some]
  rw [if_neg (by omega)]
  by_cases hl : (st.length : Int) < arP o
  · rw [if_pos hl, if_pos hl]
  rw [if_neg hl, if_neg hl, made_is k o _ (by rw [List.length_drop]; omega)]
  simp only [Option.bind_some]
  split <;> rfl
theorem step_is {k : Nat} (hk : 2 ≤ k) (cols : List Int) (o n : Int) (s : ByteArray) (st : List Int) : stepS k cols o n s st = some (stepP cols o n s st) := by
  obtain ⟨k, rfl⟩ : ∃ m, k = m + 2 := ⟨k - 2, by omega⟩
  exact step_is' k cols o n s st
theorem Ev_from {α : Type} {g : Nat → Option α} {r : α} (c : Nat) (h : ∀ k, g (k + c) = some r) : Ev g r := ⟨c, fun k hk => by
  obtain ⟨m, rfl⟩ : ∃ m, k = m + c := ⟨k - c, by omega⟩
  exact h m⟩
theorem type_step (ts : List S128) (cols ks : List Int) (i : Nat) (hi : i < ts.length) (k : Nat) : expr_Type.l0 (k + 3) ts cols ks (i : Int) = if (stepP cols (rd_T128 ts (i : Int)).f0 (rd_T128 ts (i : Int)).f1 (rd_T128 ts (i : Int)).f2 ks).1 = 0 then expr_Type.l0 (k + 2) ts cols (stepP cols (rd_T128 ts (i : Int)).f0 (rd_T128 ts (i : Int)).f1 (rd_T128 ts (i : Int)).f2 ks).2 ((i + 1 : Nat) : Int) else some (0, (stepP cols (rd_T128 ts (i : Int)).f0 (rd_T128 ts (i : Int)).f1 (rd_T128 ts (i : Int)).f2 ks).1, (i : Int)) := by
  rw [expr_Type.l0, if_pos (by omega), step_is (by omega), Option.bind_some]
  rfl
theorem type_end (ts : List S128) (cols ks : List Int) (k : Nat) : expr_Type.l0 (k + 1) ts cols ks (ts.length : Int) = if ks.length = 1 then some (rd ks 0, 0, (ts.length : Int)) else some (0, 6, (ts.length : Int)) := by
  rw [expr_Type.l0, if_neg (by omega)]
theorem stepP_code (cols : List Int) (o n : Int) (s : ByteArray) (st : List Int) : (stepP cols o n s st).1 ≤ 100 := by
  unfold stepP pushS
  repeat' split
  all_goals simp
theorem type_loop (ts : List S128) (cols : List Int) (d : Nat) : ∀ (ks : List Int) (i : Nat), i ≤ ts.length → ts.length - i = d → ∃ r, Ev (fun k => expr_Type.l0 k ts cols ks (i : Int)) r ∧ r.2.1 ≤ 100 := by
  induction d with
  | zero =>
    intro ks i hi hd
    have e : i = ts.length := by omega
    subst e
    by_cases h : ks.length = 1
    · exact ⟨_, Ev.step (fun k => by rw [type_end, if_pos h]) (Ev.now _), by simp⟩
    · exact ⟨_, Ev.step (fun k => by rw [type_end, if_neg h]) (Ev.now _), by simp⟩
  | succ d ih =>
    intro ks i hi hd
    have hi2 : i < ts.length := by omega
    by_cases h : (stepP cols (rd_T128 ts (i : Int)).f0 (rd_T128 ts (i : Int)).f1 (rd_T128 ts (i : Int)).f2 ks).1 = 0
    · obtain ⟨r, hr, hc⟩ := ih (stepP cols (rd_T128 ts (i : Int)).f0 (rd_T128 ts (i : Int)).f1 (rd_T128 ts (i : Int)).f2 ks).2 (i + 1) (by omega) (by omega)
      obtain ⟨K, hK⟩ := hr
      exact ⟨r, ⟨K + 3, fun k hk => by
        obtain ⟨m, rfl⟩ : ∃ m, k = m + 3 := ⟨k - 3, by omega⟩
        show expr_Type.l0 (m + 3) ts cols ks (i : Int) = some r
        rw [type_step ts cols ks i hi2 m, if_pos h]
        exact hK (m + 2) (by omega)⟩, hc⟩
    · exact ⟨_, Ev_from 3 (fun k => by rw [type_step ts cols ks i hi2 k, if_neg h]), stepP_code _ _ _ _ _⟩
theorem type_some (ts : List S128) (cols : List Int) : ∃ r, Ev (fun k => expr_Type.f k ts cols) r ∧ r.2.1 ≤ 100 := by
  unfold expr_Type.f
  by_cases h : (ts.length : Int) = 0
  · exact ⟨_, Ev.congr (fun k => if_pos h) (Ev.now _), by simp⟩
  by_cases h2 : (ts.length : Int) > 64
  · exact ⟨_, Ev.congr (fun k => (if_neg h).trans (if_pos h2)) (Ev.now _), by simp⟩
  obtain ⟨r, hr, hc⟩ := type_loop ts cols ts.length [] 0 (by omega) (by omega)
  exact ⟨r, Ev.congr (fun k => (if_neg h).trans (if_neg h2)) hr, hc⟩
/-- An expression's kind, and its error. -/
noncomputable def typeP (ts : List S128) (cols : List Int) : Int × Int × Int := Classical.choose (type_some ts cols)
theorem type_ev (ts : List S128) (cols : List Int) : Ev (fun k => expr_Type.f k ts cols) (typeP ts cols) := (Classical.choose_spec (type_some ts cols)).1
theorem type_code (ts : List S128) (cols : List Int) : (typeP ts cols).2.1 ≤ 100 := (Classical.choose_spec (type_some ts cols)).2
theorem rd_get {l : List Int} {i : Nat} (h : i < l.length) : rd l (i : Int) = l[i] := by
  unfold rd; rw [Int.toNat_natCast, List.getD_eq_getElem?_getD, List.getElem?_eq_getElem h]; rfl
/-- What an answer with an error says at a place: the kinds, the error, the place. -/
def atP (r : List Int × Int) (p : Int) : List Int × Int × Int := if r.2 = 0 then (r.1, 0, 0) else ([], r.2, p)
/-- What is shown of every answer: few kinds, and no error of a loop. -/
def Few (r : List Int × Int) : Prop := r.1.length ≤ 16 ∧ r.2 ≤ 100 ∧ (r.2 ≠ 0 → r.1 = [])
theorem few_bad (e : Int) (h : e ≤ 100) : Few (([] : List Int), e) := ⟨by simp, h, fun _ => rfl⟩
theorem few_ok {l : List Int} (h : l.length ≤ 16) : Few (l, 0) := ⟨h, by simp, fun h => absurd rfl h⟩
theorem at_bad {e : Int} (he : e ≠ 0) (p : Int) : atP (([] : List Int), e) p = ([], e, p) := by unfold atP; rw [if_neg he]
theorem at_ok (l : List Int) (p : Int) : atP (l, 0) p = (l, 0, 0) := by unfold atP; rw [if_pos rfl]
theorem clone_is (l : List Int) (h : l.length ≤ 100) : slices_Clone_int_int.f l = some l := by
  unfold slices_Clone_int_int.f; rw [if_pos (by omega)]
theorem between_is (a b c : Int) : plan_between.f a b c = some (decide (b ≤ a ∧ a ≤ c)) := by
  unfold plan_between.f
  by_cases h : a ≥ b
  · rw [if_pos h]; congr 1; simp [show b ≤ a from h]
  · rw [if_neg h]; congr 1; simp; omega
theorem wpred (n : Nat) (h : n ≤ 1000000) : wrap64 ((n : Int) - 1) = (n : Int) - 1 := w64 (by omega)
/-- An input's kinds. -/
def okK (x : Int) : Bool := x == 0 || x == 1
def inputP (l : List Int) : List Int × Int := if (l.length : Int) > 16 then ([], 3) else if l.all okK = true then (l, 0) else ([], 8)
theorem input_loop (l : List Int) (p : Int) (hl : l.length ≤ 16) (d : Nat) : ∀ (i : Nat), i ≤ l.length → l.length - i = d → Ev (fun k => plan_input.l0 k l p l (l.length : Int) (i : Int)) (if (l.drop i).all okK = true then (l, 0, 0) else ([], 8, p)) := by
  induction d with
  | zero =>
    intro i hi hd
    rw [List.drop_eq_nil_of_le (by omega), if_pos (show ([] : List Int).all okK = true from rfl)]
    exact Ev.step (fun k => by rw [plan_input.l0, if_neg (by omega), clone_is l (by omega), Option.bind_some]) (Ev.now _)
  | succ d ih =>
    intro i hi hd
    have hlt : i < l.length := by omega
    rw [List.drop_eq_getElem_cons hlt, List.all_cons]
    have hr := rd_get hlt
    by_cases h0 : l[i] = 0
    · rw [show okK l[i] = true from by rw [h0]; rfl, Bool.true_and]
      exact Ev.step (fun k => by rw [plan_input.l0, if_pos (by omega), if_pos (by omega), if_pos (by omega), if_pos (by rw [hr, h0]), wnext i (by omega)]) (ih (i + 1) (by omega) (by omega))
    · by_cases h1 : l[i] = 1
      · rw [show okK l[i] = true from by rw [h1]; rfl, Bool.true_and]
        exact Ev.step (fun k => by rw [plan_input.l0, if_pos (by omega), if_pos (by omega), if_pos (by omega), if_neg (by rw [hr]; exact h0), if_pos (by rw [hr, h1]), wnext i (by omega)]) (ih (i + 1) (by omega) (by omega))
      · rw [show okK l[i] = false from by unfold okK; simp [h0, h1], Bool.false_and, if_neg (by decide)]
        exact Ev.step (fun k => by rw [plan_input.l0, if_pos (by omega), if_pos (by omega), if_pos (by omega), if_neg (by rw [hr]; exact h0), if_neg (by rw [hr]; exact h1)]) (Ev.now _)
theorem input_is (l : List Int) (p : Int) : Ev (fun k => plan_input.f k l p) (atP (inputP l) p) ∧ Few (inputP l) := by
  unfold plan_input.f inputP
  by_cases h : (l.length : Int) > 16
  · rw [if_pos h, at_bad (by decide)]
    exact ⟨Ev.congr (fun k => if_pos h) (Ev.now _), few_bad 3 (by decide)⟩
  · rw [if_neg h]
    have e := input_loop l p (by omega) l.length 0 (by omega) (by omega)
    rw [List.drop_zero] at e
    by_cases hh : l.all okK = true
    · rw [if_pos hh] at e ⊢
      rw [at_ok]
      exact ⟨Ev.congr (fun k => if_neg h) e, few_ok (by omega)⟩
    · rw [if_neg hh] at e ⊢
      rw [at_bad (by decide)]
      exact ⟨Ev.congr (fun k => if_neg h) e, few_bad 8 (by decide)⟩
/-- The kinds of expressions. -/
noncomputable def mapF (cols : List Int) : List (List S128) → List Int × Int
  | [] => ([], 0)
  | t :: ts => if (typeP t cols).2.1 = 0 then (if (mapF cols ts).2 = 0 then ((typeP t cols).1 :: (mapF cols ts).1, 0) else ([], (mapF cols ts).2)) else ([], (typeP t cols).2.1)
noncomputable def mapP (l : List (List S128)) (cols : List Int) : List Int × Int := if (l.length : Int) = 0 then ([], 1) else if (l.length : Int) > 16 then ([], 3) else mapF cols l
theorem mapF_len (cols : List Int) : ∀ l : List (List S128), (mapF cols l).1.length ≤ l.length ∧ (mapF cols l).2 ≤ 100 ∧ ((mapF cols l).2 ≠ 0 → (mapF cols l).1 = [])
  | [] => ⟨by simp [mapF], by simp [mapF], fun h => by simp [mapF]⟩
  | t :: ts => by
    have ih := mapF_len cols ts
    have hc := type_code t cols
    rw [mapF]
    by_cases h : (typeP t cols).2.1 = 0
    · rw [if_pos h]
      by_cases h2 : (mapF cols ts).2 = 0
      · rw [if_pos h2]; exact ⟨by simp; omega, by simp, fun h => absurd rfl h⟩
      · rw [if_neg h2]; exact ⟨by simp, ih.2.1, fun _ => rfl⟩
    · rw [if_neg h]; exact ⟨by simp, hc, fun _ => rfl⟩
theorem must_is (e p : Int) : plan_must.f e p = some (if e = 0 then (0, 0) else (e, p)) := by
  unfold plan_must.f; split <;> rfl
theorem rdL_get {l : List (List S128)} {i : Nat} (h : i < l.length) : rd_L4 l (i : Int) = l[i] := by
  unfold rd_L4; rw [Int.toNat_natCast, List.getD_eq_getElem?_getD, List.getElem?_eq_getElem h]; rfl
theorem map_loop (l : List (List S128)) (cols : List Int) (p : Int) (hl : l.length ≤ 16) (d : Nat) : ∀ (i : Nat) (acc : List Int), i ≤ l.length → l.length - i = d → acc.length ≤ i →
    Ev (fun k => plan_mapped.l0 k cols p acc l (l.length : Int) (i : Int)) (if (mapF cols (l.drop i)).2 = 0 then (acc ++ (mapF cols (l.drop i)).1, 0, 0) else ([], (mapF cols (l.drop i)).2, p)) := by
  induction d with
  | zero =>
    intro i acc hi hd ha
    rw [List.drop_eq_nil_of_le (by omega)]
    simp only [mapF, if_true, List.append_nil]
    exact Ev.step (fun k => by rw [plan_mapped.l0, if_neg (by omega)]) (Ev.now _)
  | succ d ih =>
    intro i acc hi hd ha
    have hlt : i < l.length := by omega
    rw [List.drop_eq_getElem_cons hlt, mapF]
    have hr := rdL_get hlt
    have st : ∀ k, plan_mapped.l0 (k + 1) cols p acc l (l.length : Int) (i : Int) = (expr_Type.f k l[i] cols).bind fun bt => if bt.2.1 = 0 then plan_mapped.l0 k cols p (acc ++ [bt.1]) l (l.length : Int) ((i + 1 : Nat) : Int) else some ([], bt.2.1, p) := fun k => by
      rw [plan_mapped.l0, if_pos (by omega), if_pos (by omega), if_pos (by omega), hr, wnext i (by omega)]
      congr 1
      funext bt
      rw [must_is, Option.bind_some]
      by_cases h : bt.2.1 = 0
      · rw [if_pos h, if_pos h, if_pos rfl, if_pos (by omega)]
      · rw [if_neg h, if_neg h, if_neg h]
    by_cases h : (typeP l[i] cols).2.1 = 0
    · rw [if_pos h]
      have e := ih (i + 1) (acc ++ [(typeP l[i] cols).1]) (by omega) (by omega) (by rw [List.length_append]; simp; omega)
      by_cases h2 : (mapF cols (l.drop (i + 1))).2 = 0
      · rw [if_pos h2] at e ⊢
        rw [if_pos rfl]
        rw [List.append_assoc] at e
        exact Ev.step st (Ev.bind (type_ev _ _) (Ev.congr (fun k => if_pos h) e))
      · rw [if_neg h2] at e ⊢
        rw [if_neg h2]
        exact Ev.step st (Ev.bind (type_ev _ _) (Ev.congr (fun k => if_pos h) e))
    · rw [if_neg h, if_neg h]
      exact Ev.step st (Ev.bind (type_ev _ _) (Ev.congr (fun k => if_neg h) (Ev.now _)))
theorem map_is (l : List (List S128)) (cols : List Int) (p : Int) : Ev (fun k => plan_mapped.f k l cols p) (atP (mapP l cols) p) ∧ Few (mapP l cols) := by
  unfold plan_mapped.f mapP
  by_cases h0 : (l.length : Int) = 0
  · rw [if_pos h0, at_bad (by decide)]
    exact ⟨Ev.congr (fun k => if_pos h0) (Ev.now _), few_bad 1 (by decide)⟩
  rw [if_neg h0]
  by_cases h : (l.length : Int) > 16
  · rw [if_pos h, at_bad (by decide)]
    exact ⟨Ev.congr (fun k => (if_neg h0).trans (if_pos h)) (Ev.now _), few_bad 3 (by decide)⟩
  rw [if_neg h]
  have e := map_loop l cols p (by omega) l.length 0 [] (by omega) (by omega) (Nat.le_refl _)
  rw [List.drop_zero, List.nil_append] at e
  have hm := mapF_len cols l
  refine ⟨Ev.congr (fun k => (if_neg h0).trans (if_neg h)) ?_, by omega, hm.2⟩
  unfold atP
  exact e
/-- Some of the kinds. -/
def projF (cols : List Int) : List Int → List Int × Int
  | [] => ([], 0)
  | c :: cs => if 0 ≤ c ∧ c < (cols.length : Int) then (if (projF cols cs).2 = 0 then (rd cols c :: (projF cols cs).1, 0) else ([], (projF cols cs).2)) else ([], 9)
def projP (l cols : List Int) : List Int × Int := if (l.length : Int) > 16 then ([], 3) else projF cols l
theorem projF_len (cols : List Int) : ∀ l : List Int, (projF cols l).1.length ≤ l.length ∧ (projF cols l).2 ≤ 100 ∧ ((projF cols l).2 ≠ 0 → (projF cols l).1 = [])
  | [] => ⟨by simp [projF], by simp [projF], fun h => by simp [projF]⟩
  | t :: ts => by
    have ih := projF_len cols ts
    rw [projF]
    by_cases h : 0 ≤ t ∧ t < (cols.length : Int)
    · rw [if_pos h]
      by_cases h2 : (projF cols ts).2 = 0
      · rw [if_pos h2]; exact ⟨by simp; omega, by simp, fun h => absurd rfl h⟩
      · rw [if_neg h2]; exact ⟨by simp, ih.2.1, fun _ => rfl⟩
    · rw [if_neg h]; exact ⟨by simp, by simp, fun _ => rfl⟩
theorem proj_loop (l cols : List Int) (p : Int) (hl : l.length ≤ 16) (hc : cols.length ≤ 100) (d : Nat) : ∀ (i : Nat) (acc : List Int), i ≤ l.length → l.length - i = d → acc.length ≤ i →
    Ev (fun k => plan_projected.l0 k cols p acc l (l.length : Int) (i : Int)) (if (projF cols (l.drop i)).2 = 0 then (acc ++ (projF cols (l.drop i)).1, 0, 0) else ([], (projF cols (l.drop i)).2, p)) := by
  induction d with
  | zero =>
    intro i acc hi hd ha
    rw [List.drop_eq_nil_of_le (by omega)]
    simp only [projF, if_true, List.append_nil]
    exact Ev.step (fun k => by rw [plan_projected.l0, if_neg (by omega)]) (Ev.now _)
  | succ d ih =>
    intro i acc hi hd ha
    have hlt : i < l.length := by omega
    rw [List.drop_eq_getElem_cons hlt, projF]
    have hr := rd_get hlt
    by_cases h : 0 ≤ l[i] ∧ l[i] < (cols.length : Int)
    · rw [if_pos h]
      have st : ∀ k, plan_projected.l0 (k + 1) cols p acc l (l.length : Int) (i : Int) = plan_projected.l0 k cols p (acc ++ [rd cols l[i]]) l (l.length : Int) ((i + 1 : Nat) : Int) := fun k => by
        rw [plan_projected.l0, if_pos (by omega), if_pos (by omega), if_pos (by omega), hr, between_is, Option.bind_some, if_pos (by rw [wpred _ (by omega)]; exact decide_eq_true ⟨h.1, by omega⟩), if_pos h.1, if_pos h.2, if_pos (by omega), wnext i (by omega)]
      have e := ih (i + 1) (acc ++ [rd cols l[i]]) (by omega) (by omega) (by rw [List.length_append]; simp; omega)
      by_cases h2 : (projF cols (l.drop (i + 1))).2 = 0
      · rw [if_pos h2] at e ⊢
        rw [if_pos rfl]
        rw [List.append_assoc] at e
        exact Ev.step st e
      · rw [if_neg h2] at e ⊢
        rw [if_neg h2]
        exact Ev.step st e
    · rw [if_neg h, if_neg (by decide)]
      refine Ev.step (fun k => ?_) (Ev.now _)
      rw [plan_projected.l0, if_pos (by omega), if_pos (by omega), if_pos (by omega), hr, between_is, Option.bind_some, if_neg (by rw [wpred _ (by omega)]; simp only [decide_eq_true_eq]; omega)]
theorem proj_is (l cols : List Int) (p : Int) (hc : cols.length ≤ 100) : Ev (fun k => plan_projected.f k l cols p) (atP (projP l cols) p) ∧ Few (projP l cols) := by
  unfold plan_projected.f projP
  by_cases h : (l.length : Int) > 16
  · rw [if_pos h, at_bad (by decide)]
    exact ⟨Ev.congr (fun k => if_pos h) (Ev.now _), few_bad 3 (by decide)⟩
  rw [if_neg h]
  have e := proj_loop l cols p (by omega) hc l.length 0 [] (by omega) (by omega) (Nat.le_refl _)
  rw [List.drop_zero, List.nil_append] at e
  have hm := projF_len cols l
  refine ⟨Ev.congr (fun k => if_neg h) ?_, by omega, hm.2⟩
  unfold atP
  exact e
/-- A window's error. -/
def winP (a b : Int) : Int := if 1 ≤ a ∧ a ≤ 1099511627776 ∧ 1 ≤ b ∧ b ≤ 1099511627776 then (if a > wrap64 (64 * b) then 3 else 0) else 1
theorem wbetween_is (a b c : Int) : window_between_int.f a b c = some (decide (b ≤ a ∧ a ≤ c)) := by
  unfold window_between_int.f
  by_cases h : a ≥ b
  · rw [if_pos h]; congr 1; simp [show b ≤ a from h]
  · rw [if_neg h]; congr 1; simp; omega
theorem win_is (a b : Int) : Ev (fun k => window_Check.f k a b) (winP a b) ∧ winP a b ≤ 100 := by
  unfold window_Check.f winP
  refine ⟨?_, by repeat' split
                 all_goals decide⟩
  rw [wbetween_is, wbetween_is]
  simp only [Option.bind_some]
  by_cases h1 : 1 ≤ a ∧ a ≤ 1099511627776
  · by_cases h2 : 1 ≤ b ∧ b ≤ 1099511627776
    · rw [if_pos ⟨h1.1, h1.2, h2.1, h2.2⟩, decide_eq_true h1, decide_eq_true h2]
      simp only [if_true, Bool.not_true]
      by_cases h3 : a > wrap64 (64 * b)
      · rw [if_pos h3]; exact Ev.step (fun k => by rw [window_Check.j0, if_neg (by decide), if_pos h3]) (Ev.now _)
      · rw [if_neg h3]; exact Ev.step (fun k => by rw [window_Check.j0, if_neg (by decide), if_neg h3]) (Ev.now _)
    · rw [if_neg (by omega), decide_eq_true h1, decide_eq_false h2]
      simp only [if_true, Bool.not_false]
      exact Ev.step (fun k => by rw [window_Check.j0, if_pos rfl]) (Ev.now _)
  · rw [if_neg (by omega), decide_eq_false h1]
    simp only [Bool.false_eq_true, if_false]
    exact Ev.step (fun k => by rw [window_Check.j0, if_pos rfl]) (Ev.now _)
/-- One column more, a window's. -/
def bucketP (n size slide : Int) (cols : List Int) : List Int × Int := if 0 ≤ n ∧ n < (cols.length : Int) then (if rd cols n = 0 then (if winP size slide = 0 then (if (cols.length : Int) ≥ 16 then ([], 3) else (cols ++ [0], 0)) else ([], winP size slide)) else ([], 80)) else ([], 9)
theorem bucket_is (f0 : Int) (f1 f2 : List Int) (f3 : List (List S128)) (f4 : List Int) (f5 n size slide : Int) (cols : List Int) (p : Int) (hc : cols.length ≤ 100) : Ev (fun k => plan_bucketed.f k f0 f1 f2 f3 f4 f5 n size slide cols p) (atP (bucketP n size slide cols) p) ∧ Few (bucketP n size slide cols) := by
  unfold bucketP
  obtain ⟨hw, hw2⟩ := win_is size slide
  by_cases h : 0 ≤ n ∧ n < (cols.length : Int)
  · have hd : decide (0 ≤ n ∧ n ≤ (cols.length : Int) - 1) = true := decide_eq_true ⟨h.1, by omega⟩
    rw [if_pos h]
    by_cases h0 : rd cols n = 0
    · rw [if_pos h0]
      have st : ∀ k, plan_bucketed.f k f0 f1 f2 f3 f4 f5 n size slide cols p = (window_Check.f k size slide).bind fun t => if t = 0 then (if (cols.length : Int) ≥ 16 then some (([] : List Int), (3 : Int), p) else some (cols ++ [0], 0, 0)) else some (([] : List Int), t, p) := fun k => by
        rw [plan_bucketed.f, between_is, wpred _ (by omega), Option.bind_some, if_pos hd, if_pos h.1, if_pos h.2, if_pos h0]
        congr 1
        funext t
        rw [must_is, Option.bind_some]
        by_cases ht : t = 0
        · rw [if_pos ht, if_pos rfl, if_pos ht]
          by_cases hx : (cols.length : Int) ≥ 16
          · rw [if_pos hx, if_pos hx]
          · rw [if_neg hx, if_neg hx, clone_is cols hc, Option.bind_some, if_pos (by omega)]
        · rw [if_neg ht, if_neg ht, if_neg ht]
      by_cases h1 : winP size slide = 0
      · rw [if_pos h1]
        by_cases h2 : (cols.length : Int) ≥ 16
        · rw [if_pos h2, at_bad (by decide)]
          exact ⟨Ev.congr st (Ev.bind hw (Ev.congr (fun k => (if_pos h1).trans (if_pos h2)) (Ev.now _))), few_bad 3 (by decide)⟩
        · rw [if_neg h2, at_ok]
          exact ⟨Ev.congr st (Ev.bind hw (Ev.congr (fun k => (if_pos h1).trans (if_neg h2)) (Ev.now _))), few_ok (by rw [List.length_append]; simp; omega)⟩
      · rw [if_neg h1, at_bad h1]
        exact ⟨Ev.congr st (Ev.bind hw (Ev.congr (fun k => if_neg h1) (Ev.now _))), few_bad _ hw2⟩
    · rw [if_neg h0, at_bad (by decide)]
      exact ⟨Ev.congr (fun k => by rw [plan_bucketed.f, between_is, wpred _ (by omega), Option.bind_some, if_pos hd, if_pos h.1, if_pos h.2, if_neg h0]) (Ev.now _), few_bad 80 (by decide)⟩
  · rw [if_neg h, at_bad (by decide)]
    have hd : ¬ decide (0 ≤ n ∧ n ≤ (cols.length : Int) - 1) = true := by simp only [decide_eq_true_eq]; omega
    exact ⟨Ev.congr (fun k => by rw [plan_bucketed.f, between_is, wpred _ (by omega), Option.bind_some, if_neg hd]) (Ev.now _), few_bad 9 (by decide)⟩
theorem equal_loop (a b : List Int) (hl : a.length = b.length) (ha : a.length ≤ 1000) (d : Nat) : ∀ (i : Nat), i ≤ a.length → a.length - i = d → Ev (fun k => slices_Equal_int_int.l0 k a b (a.length : Int) (i : Int)) (decide (a.drop i = b.drop i)) := by
  induction d with
  | zero =>
    intro i hi hd
    rw [List.drop_eq_nil_of_le (by omega), List.drop_eq_nil_of_le (by omega), decide_eq_true rfl]
    exact Ev.step (fun k => by rw [slices_Equal_int_int.l0, if_neg (by omega)]) (Ev.now _)
  | succ d ih =>
    intro i hi hd
    have h1 : i < a.length := by omega
    have h2 : i < b.length := by omega
    rw [List.drop_eq_getElem_cons h1, List.drop_eq_getElem_cons h2]
    by_cases h : a[i] = b[i]
    · rw [show decide (a[i] :: a.drop (i + 1) = b[i] :: b.drop (i + 1)) = decide (a.drop (i + 1) = b.drop (i + 1)) from decide_eq_decide.2 ⟨fun e => (List.cons.inj e).2, fun e => by rw [h, e]⟩]
      exact Ev.step (fun k => by rw [slices_Equal_int_int.l0, if_pos (by omega), if_pos (by omega), if_pos (by omega), if_pos (by omega), if_pos (by rw [rd_get h1, rd_get h2, h]), wnext i (by omega)]) (ih (i + 1) (by omega) (by omega))
    · rw [decide_eq_false (fun e => h (List.cons.inj e).1)]
      exact Ev.step (fun k => by rw [slices_Equal_int_int.l0, if_pos (by omega), if_pos (by omega), if_pos (by omega), if_pos (by omega), if_neg (by rw [rd_get h1, rd_get h2]; exact h)]) (Ev.now _)
theorem equal_is (a b : List Int) (ha : a.length ≤ 1000) : Ev (fun k => slices_Equal_int_int.f k a b) (decide (a = b)) := by
  unfold slices_Equal_int_int.f
  by_cases h : (a.length : Int) = (b.length : Int)
  · have e := equal_loop a b (by omega) ha a.length 0 (by omega) (by omega)
    rw [List.drop_zero, List.drop_zero] at e
    exact Ev.congr (fun k => if_pos h) e
  · rw [decide_eq_false (fun e => h (by rw [e]))]
    exact Ev.congr (fun k => if_neg h) (Ev.now _)
theorem concat_is (a b : List Int) (h : a.length + b.length ≤ 1000) : Ev (fun k => slices_Concat_int_int.f k [a, b]) (a ++ b) := by
  unfold slices_Concat_int_int.f
  have g0 : rd_L3 [a, b] 0 = a := rfl
  have g1 : rd_L3 [a, b] 1 = b := rfl
  have l2 : (([a, b] : List (List Int)).length : Int) = 2 := rfl
  have w0 : wrap64 (0 + (a.length : Int)) = (a.length : Int) := by rw [w64 (by omega)]; omega
  have w1 : wrap64 ((a.length : Int) + (b.length : Int)) = (a.length : Int) + (b.length : Int) := w64 (by omega)
  have n1 : wrap64 ((0 : Int) + 1) = 1 := by decide +kernel
  have n2 : wrap64 ((1 : Int) + 1) = 2 := by decide +kernel
  rw [l2]
  refine Ev.step (fun k => by rw [slices_Concat_int_int.l0, if_pos (by decide), if_pos (by decide), if_pos (by rw [l2]; decide), g0, w0, if_neg (by omega), n1]) ?_
  refine Ev.step (fun k => by rw [slices_Concat_int_int.l0, if_pos (by decide), if_pos (by decide), if_pos (by rw [l2]; decide), g1, w1, if_neg (by omega), n2]) ?_
  refine Ev.step (fun k => by rw [slices_Concat_int_int.l0, if_neg (by decide), if_pos (by omega), if_pos (by omega), l2]) ?_
  refine Ev.step (fun k => by rw [slices_Concat_int_int.l1, if_pos (by decide), if_pos (by decide), if_pos (by rw [l2]; decide), g0, if_pos (by simp; omega), n1, List.nil_append]) ?_
  refine Ev.step (fun k => by rw [slices_Concat_int_int.l1, if_pos (by decide), if_pos (by decide), if_pos (by rw [l2]; decide), g1, if_pos (by omega), n2]) ?_
  exact Ev.step (fun k => by rw [slices_Concat_int_int.l1, if_neg (by decide)]) (Ev.now _)
/-- Of both. -/
def joinP (key : Int) (a b : List Int) : List Int × Int := if 0 ≤ key ∧ key ≤ (a.length : Int) ∧ key ≤ (b.length : Int) then (if a.take key.toNat = b.take key.toNat then (if (a.length : Int) + (b.length : Int) - key > 16 then ([], 3) else (a ++ b.drop key.toNat, 0)) else ([], 80)) else ([], 9)
theorem join_is (key : Int) (a b : List Int) (p : Int) (ha : a.length ≤ 100) (hb : b.length ≤ 100) : Ev (fun k => plan_joined.f k key a b p) (atP (joinP key a b) p) ∧ Few (joinP key a b) := by
  unfold joinP
  have hm : (key ≤ mn (a.length : Int) (b.length : Int)) ↔ (key ≤ (a.length : Int) ∧ key ≤ (b.length : Int)) := by
    unfold mn; split <;> omega
  by_cases h : 0 ≤ key ∧ key ≤ (a.length : Int) ∧ key ≤ (b.length : Int)
  · have hd : decide (0 ≤ key ∧ key ≤ mn (a.length : Int) (b.length : Int)) = true := decide_eq_true ⟨h.1, hm.2 h.2⟩
    rw [if_pos h]
    have he := equal_is (a.take key.toNat) (b.take key.toNat) (by rw [List.length_take]; omega)
    have hw : wrap64 (wrap64 ((a.length : Int) + (b.length : Int)) - key) = (a.length : Int) + (b.length : Int) - key := by rw [w64 (x := (a.length : Int) + (b.length : Int)) (by omega), w64 (by omega)]
    have st : ∀ k, plan_joined.f k key a b p = (slices_Equal_int_int.f k (a.take key.toNat) (b.take key.toNat)).bind fun t => if t = true then (if (a.length : Int) + (b.length : Int) - key > 16 then some (([] : List Int), (3 : Int), p) else ((slices_Concat_int_int.f k ([a, b.drop key.toNat] : List (List Int))).bind fun t2 => some (t2, 0, 0))) else some (([] : List Int), 80, p) := fun k => by
      rw [plan_joined.f, between_is, Option.bind_some, if_pos hd, if_pos h.1, if_pos h.2.1, if_pos h.2.2, hw]
    by_cases h1 : a.take key.toNat = b.take key.toNat
    · rw [if_pos h1]
      rw [decide_eq_true h1] at he
      by_cases h2 : (a.length : Int) + (b.length : Int) - key > 16
      · rw [if_pos h2, at_bad (by decide)]
        exact ⟨Ev.congr st (Ev.bind he (Ev.congr (fun k => (if_pos rfl).trans (if_pos h2)) (Ev.now _))), few_bad 3 (by decide)⟩
      · rw [if_neg h2, at_ok]
        exact ⟨Ev.congr st (Ev.bind he (Ev.congr (fun k => (if_pos rfl).trans (if_neg h2)) (Ev.bind (concat_is a (b.drop key.toNat) (by rw [List.length_drop]; omega)) (Ev.now _)))), few_ok (by rw [List.length_append, List.length_drop]; omega)⟩
    · rw [if_neg h1, at_bad (by decide)]
      rw [decide_eq_false h1] at he
      exact ⟨Ev.congr st (Ev.bind he (Ev.congr (fun k => if_neg (by decide)) (Ev.now _))), few_bad 80 (by decide)⟩
  · rw [if_neg h, at_bad (by decide)]
    have hd : ¬ decide (0 ≤ key ∧ key ≤ mn (a.length : Int) (b.length : Int)) = true := by simp only [decide_eq_true_eq, hm]; omega
    exact ⟨Ev.congr (fun k => by rw [plan_joined.f, between_is, Option.bind_some, if_neg hd]) (Ev.now _), few_bad 9 (by decide)⟩
/-- A group's kinds (g from 0 to 5). -/
def groupP (g key n : Int) (cols : List Int) : List Int × Int :=
  if g ≠ 0 ∧ (key < 0 ∨ key > (cols.length : Int)) then ([], 9)
  else if g = 2 then (if n < 0 ∨ n ≥ (cols.length : Int) then ([], 9) else if rd cols n = 0 then (if key ≥ 16 then ([], 3) else (cols.take key.toNat ++ [0], 0)) else ([], 80))
  else if g = 1 then (if key ≥ 16 then ([], 3) else (cols.take key.toNat ++ [0], 0))
  else if g = 5 ∧ (n < 1 ∨ n > 1000) then ([], 1) else (cols, 0)
theorem known_is (g n : Int) (h0 : 0 ≤ g) (h1 : g ≤ 5) : Ev (fun k => group_known.f k g n) (if g = 5 ∧ (n < 1 ∨ n > 1000) then 1 else 0) := by
  refine Ev.congr (fun k => by rw [group_known.f, if_neg (by omega), decide_eq_false (by omega)]) ?_
  by_cases h : g = 5
  · by_cases h2 : n < 1
    · rw [if_pos ⟨h, .inl h2⟩]; exact Ev.step (fun k => by rw [group_known.j0, if_neg (by decide), if_pos h, if_pos h2]) (Ev.now _)
    · by_cases h3 : n > 1000
      · rw [if_pos ⟨h, .inr h3⟩]; exact Ev.step (fun k => by rw [group_known.j0, if_neg (by decide), if_pos h, if_neg h2, if_pos h3]) (Ev.now _)
      · rw [if_neg (by omega)]; exact Ev.step (fun k => by rw [group_known.j0, if_neg (by decide), if_pos h, if_neg h2, if_neg h3]) (Ev.now _)
  · rw [if_neg (by omega)]; exact Ev.step (fun k => by rw [group_known.j0, if_neg (by decide), if_neg h]) (Ev.now _)
theorem take_clone (key : Int) (cols : List Int) (hc : cols.length ≤ 100) : slices_Clone_int_int.f (cols.take key.toNat) = some (cols.take key.toNat) := clone_is _ (by rw [List.length_take]; omega)
theorem gcheck_is (g key n : Int) (cols : List Int) (h0 : 0 ≤ g) (h1 : g ≤ 5) (hc : cols.length ≤ 16) : Ev (fun k => group_Check.f k g key n cols) (groupP g key n cols) ∧ Few (groupP g key n cols) := by
  have st0 : ∀ r, Ev (fun k => group_Check.j1 k g key n cols (decide (g ≠ 0 ∧ (key < 0 ∨ key > (cols.length : Int))))) r → Ev (fun k => group_Check.f k g key n cols) r := fun r hr => by
    refine Ev.congr (fun k => by rw [group_Check.f, if_neg (by omega), decide_eq_false (by omega)]) ?_
    by_cases hg : g = 0
    · rw [decide_eq_false (by omega)] at hr
      exact Ev.step (fun k => by rw [group_Check.j0, if_neg (by decide), if_pos hg]) hr
    · by_cases hk : key < 0
      · rw [decide_eq_true ⟨hg, .inl hk⟩] at hr
        exact Ev.step (fun k => by rw [group_Check.j0, if_neg (by decide), if_neg hg, if_pos hk]) hr
      · rw [show decide (g ≠ 0 ∧ (key < 0 ∨ key > (cols.length : Int))) = decide (key > (cols.length : Int)) from decide_eq_decide.2 (by omega)] at hr
        exact Ev.step (fun k => by rw [group_Check.j0, if_neg (by decide), if_neg hg, if_neg hk]) hr
  unfold groupP
  by_cases c0 : g ≠ 0 ∧ (key < 0 ∨ key > (cols.length : Int))
  · rw [if_pos c0]
    rw [decide_eq_true c0] at st0
    exact ⟨st0 _ (Ev.step (fun k => by rw [group_Check.j1, if_pos rfl]) (Ev.now _)), few_bad 9 (by decide)⟩
  rw [if_neg c0]
  rw [decide_eq_false c0] at st0
  have tk : (cols.take key.toNat).length < 17592186044416 := by rw [List.length_take]; omega
  have few : ∀ _ : ¬ key ≥ 16, Few (cols.take key.toNat ++ [0], 0) := fun h => few_ok (by rw [List.length_append, List.length_take]; simp; omega)
  by_cases g2 : g = 2
  · rw [if_pos g2]
    by_cases n0 : n < 0 ∨ n ≥ (cols.length : Int)
    · rw [if_pos n0]
      refine ⟨st0 _ ?_, few_bad 9 (by decide)⟩
      by_cases n1 : n < 0
      · exact Ev.step (fun k => by rw [group_Check.j1, if_neg (by decide), if_pos g2, if_pos n1]) (Ev.step (fun k => by rw [group_Check.j2, if_pos rfl]) (Ev.now _))
      · exact Ev.step (fun k => by rw [group_Check.j1, if_neg (by decide), if_pos g2, if_neg n1, decide_eq_true (by omega)]) (Ev.step (fun k => by rw [group_Check.j2, if_pos rfl]) (Ev.now _))
    · rw [if_neg n0]
      have st : ∀ r, Ev (fun k => group_Check.j2 k key n cols false) r → Ev (fun k => group_Check.f k g key n cols) r := fun r hr => st0 _ (Ev.step (fun k => by rw [group_Check.j1, if_neg (by decide), if_pos g2, if_neg (by omega), decide_eq_false (by omega)]) hr)
      by_cases z : rd cols n = 0
      · rw [if_pos z]
        by_cases k16 : key ≥ 16
        · rw [if_pos k16]
          exact ⟨st _ (Ev.step (fun k => by rw [group_Check.j2, if_neg (by decide), if_pos (by omega), if_pos (by omega), if_pos z, if_pos k16]) (Ev.now _)), few_bad 3 (by decide)⟩
        · rw [if_neg k16]
          exact ⟨st _ (Ev.step (fun k => by rw [group_Check.j2, if_neg (by decide), if_pos (by omega), if_pos (by omega), if_pos z, if_neg k16, if_pos (by omega), if_pos (by omega), take_clone key cols (by omega), Option.bind_some, if_pos tk]) (Ev.now _)), few k16⟩
      · rw [if_neg z]
        exact ⟨st _ (Ev.step (fun k => by rw [group_Check.j2, if_neg (by decide), if_pos (by omega), if_pos (by omega), if_neg z]) (Ev.now _)), few_bad 80 (by decide)⟩
  · rw [if_neg g2]
    by_cases g1 : g = 1
    · rw [if_pos g1]
      by_cases k16 : key ≥ 16
      · rw [if_pos k16]
        exact ⟨st0 _ (Ev.step (fun k => by rw [group_Check.j1, if_neg (by decide), if_neg g2, if_pos g1, if_pos k16]) (Ev.now _)), few_bad 3 (by decide)⟩
      · rw [if_neg k16]
        exact ⟨st0 _ (Ev.step (fun k => by rw [group_Check.j1, if_neg (by decide), if_neg g2, if_pos g1, if_neg k16, if_pos (by omega), if_pos (by omega), take_clone key cols (by omega), Option.bind_some, if_pos tk]) (Ev.now _)), few k16⟩
    · rw [if_neg g1]
      have kn := known_is g n h0 h1
      have st : ∀ k, group_Check.j1 (k + 1) g key n cols false = (group_known.f k g n).bind fun t => if t = 0 then ((slices_Clone_int_int.f cols).bind fun t2 => some (t2, 0)) else some (([] : List Int), t) := fun k => by
        rw [group_Check.j1, if_neg (by decide), if_neg g2, if_neg g1]
      by_cases g5 : g = 5 ∧ (n < 1 ∨ n > 1000)
      · rw [if_pos g5] at kn ⊢
        exact ⟨st0 _ (Ev.step st (Ev.bind kn (Ev.congr (fun k => if_neg (by decide)) (Ev.now _)))), few_bad 1 (by decide)⟩
      · rw [if_neg g5] at kn ⊢
        exact ⟨st0 _ (Ev.step st (Ev.bind kn (Ev.congr (fun k => by rw [if_pos rfl, clone_is cols (by omega), Option.bind_some]) (Ev.now _)))), few_ok hc⟩
theorem group_is (x : Int) (f1 f2 : List Int) (f3 : List (List S128)) (f4 : List Int) (f5 f6 f7 f8 : Int) : plan_Group.f x f1 f2 f3 f4 f5 f6 f7 f8 = some (if 9 ≤ x ∧ x ≤ 14 then (x - 9, true) else (0, false)) := by
  by_cases h : 9 ≤ x ∧ x ≤ 14
  · rw [if_pos h]
    unfold plan_Group.f
    have : x = 9 ∨ x = 10 ∨ x = 11 ∨ x = 12 ∨ x = 13 ∨ x = 14 := by omega
    rcases this with rfl | rfl | rfl | rfl | rfl | rfl <;> decide +kernel
  · rw [if_neg h]
    unfold plan_Group.f
    rw [if_neg (by omega), if_neg (by omega), if_neg (by omega), if_neg (by omega), if_neg (by omega), if_neg (by omega)]
theorem mapF_ok (cols : List Int) : ∀ l : List (List S128), (mapF cols l).2 = 0 → (mapF cols l).1.length = l.length
  | [], _ => by simp [mapF]
  | t :: ts, h => by
    rw [mapF] at h ⊢
    by_cases h1 : (typeP t cols).2.1 = 0
    · rw [if_pos h1] at h ⊢
      by_cases h2 : (mapF cols ts).2 = 0
      · rw [if_pos h2]; simp [mapF_ok cols ts h2]
      · rw [if_neg h2] at h; exact absurd h h2
    · rw [if_neg h1] at h; exact absurd h h1
/-- A node's kinds, and the error. -/
noncomputable def ofP (x : S42) (kinds : List (List Int)) : List Int × Int :=
  if x.f0 = 0 then inputP x.f2
  else if 9 ≤ x.f0 ∧ x.f0 ≤ 14 then groupP (x.f0 - 9) x.f5 x.f6 (rd_L3 kinds (rd x.f1 0))
  else if x.f0 = 1 then mapP x.f3 (rd_L3 kinds (rd x.f1 0))
  else if x.f0 = 2 then (if (x.f3.length : Int) = 1 then (if (mapP x.f3 (rd_L3 kinds (rd x.f1 0))).2 = 0 then (if rd (mapP x.f3 (rd_L3 kinds (rd x.f1 0))).1 0 = 0 then (rd_L3 kinds (rd x.f1 0), 0) else ([], 80)) else ([], (mapP x.f3 (rd_L3 kinds (rd x.f1 0))).2)) else ([], 1))
  else if x.f0 = 3 then projP x.f4 (rd_L3 kinds (rd x.f1 0))
  else if x.f0 = 4 then (if x.f1.all (fun i => decide (rd_L3 kinds i = rd_L3 kinds (rd x.f1 0))) = true then (rd_L3 kinds (rd x.f1 0), 0) else ([], 80))
  else if x.f0 = 7 then bucketP x.f6 x.f7 x.f8 (rd_L3 kinds (rd x.f1 0))
  else if x.f0 = 15 then joinP x.f5 (rd_L3 kinds (rd x.f1 0)) (rd_L3 kinds (rd x.f1 1))
  else if x.f0 = 8 then (if 0 ≤ x.f5 ∧ x.f5 ≤ ((rd_L3 kinds (rd x.f1 0)).length : Int) then (rd_L3 kinds (rd x.f1 0), 0) else ([], 9))
  else (rd_L3 kinds (rd x.f1 0), 0)
theorem same_rows (ins : List Int) (kinds : List (List Int)) (cols : List Int) (p : Int) (hins : ∀ i ∈ ins, 0 ≤ i ∧ i < (kinds.length : Int)) (hk : ∀ i : Int, (rd_L3 kinds i).length ≤ 16) (hc : cols.length ≤ 16) (hl : ins.length ≤ 100) (d : Nat) : ∀ (i : Nat), i ≤ ins.length → ins.length - i = d →
    Ev (fun k => plan_typer_of.l0 k ins kinds cols p (i : Int)) (if (ins.drop i).all (fun i => decide (rd_L3 kinds i = cols)) = true then (cols, 0, 0) else ([], 80, p)) := by
  induction d with
  | zero =>
    intro i hi hd
    rw [List.drop_eq_nil_of_le (by omega), if_pos (show ([] : List Int).all _ = true from rfl)]
    exact Ev.step (fun k => by rw [plan_typer_of.l0, if_neg (by omega), clone_is cols (by omega), Option.bind_some]) (Ev.now _)
  | succ d ih =>
    intro i hi hd
    have hlt : i < ins.length := by omega
    rw [List.drop_eq_getElem_cons hlt, List.all_cons]
    have hr := rd_get hlt
    have hin := hins ins[i] (List.getElem_mem hlt)
    have st : ∀ k, plan_typer_of.l0 (k + 1) ins kinds cols p (i : Int) = (slices_Equal_int_int.f k (rd_L3 kinds ins[i]) cols).bind fun t => (if t = true then (plan_typer_of.l0 k ins kinds cols p ((i + 1 : Nat) : Int)) else (some (([] : List Int), 80, p))) := fun k => by
      rw [plan_typer_of.l0, if_pos (by omega), if_pos (by omega), hr, if_pos hin.1, if_pos hin.2, wnext i (by omega)]
    have he := equal_is (rd_L3 kinds ins[i]) cols (by have := hk ins[i]; omega)
    by_cases h : rd_L3 kinds ins[i] = cols
    · rw [decide_eq_true h, Bool.true_and]
      rw [decide_eq_true h] at he
      exact Ev.step st (Ev.bind he (Ev.congr (fun k => if_pos rfl) (ih (i + 1) (by omega) (by omega))))
    · rw [decide_eq_false h, Bool.false_and, if_neg (by decide)]
      rw [decide_eq_false h] at he
      exact Ev.step st (Ev.bind he (Ev.congr (fun k => if_neg (by decide)) (Ev.now _)))
theorem ofh_is (x : S42) (kinds : List (List Int)) (p : Int) (h00 : x.f0 ≠ 0) (h1 : 0 < x.f1.length) (h15 : x.f0 = 15 → 1 < x.f1.length) (hl : x.f1.length ≤ 100) (hins : ∀ i ∈ x.f1, 0 ≤ i ∧ i < (kinds.length : Int)) (hk : ∀ i : Int, (rd_L3 kinds i).length ≤ 16) :
    Ev (fun k => plan_typer_of.h k x.f0 x.f1 x.f2 x.f3 x.f4 x.f5 x.f6 x.f7 x.f8 kinds (rd_L3 kinds (rd x.f1 0)) p) (atP (ofP x kinds) p) ∧ Few (ofP x kinds) := by
  unfold ofP
  rw [if_neg h00]
  have hc := hk (rd x.f1 0)
  have hr := same_rows x.f1 kinds (rd_L3 kinds (rd x.f1 0)) p hins hk hc hl x.f1.length 0 (by omega) (by omega)
  rw [List.drop_zero] at hr
  have h2 := hk (rd x.f1 1)
  have i1 : x.f0 = 15 → 0 ≤ rd x.f1 1 ∧ rd x.f1 1 < (kinds.length : Int) := fun h => by
    have := h15 h
    have e := rd_get this
    rw [show ((1 : Nat) : Int) = 1 from rfl] at e
    rw [e]; exact hins _ (List.getElem_mem this)
  generalize rd_L3 kinds (rd x.f1 0) = cols at hc hr ⊢
  have hg : plan_Group.f x.f0 x.f1 x.f2 x.f3 x.f4 x.f5 x.f6 x.f7 x.f8 = _ := group_is x.f0 x.f1 x.f2 x.f3 x.f4 x.f5 x.f6 x.f7 x.f8
  have hcl := clone_is cols (by omega)
  by_cases g : 9 ≤ x.f0 ∧ x.f0 ≤ 14
  · rw [if_pos g]
    rw [if_pos g] at hg
    obtain ⟨e, f⟩ := gcheck_is (x.f0 - 9) x.f5 x.f6 cols (by omega) (by omega) hc
    refine ⟨?_, f⟩
    refine Ev.congr (fun k => by rw [plan_typer_of.h, hg, Option.bind_some, if_pos rfl]) (Ev.bind e ?_)
    unfold atP
    by_cases z : (groupP (x.f0 - 9) x.f5 x.f6 cols).2 = 0
    · rw [if_pos z]
      exact Ev.congr (fun k => by rw [must_is, if_pos z, Option.bind_some, if_pos rfl]) (Ev.now _)
    · rw [if_neg z]
      exact Ev.congr (fun k => by rw [must_is, if_neg z, Option.bind_some, if_neg z]) (Ev.now _)
  rw [if_neg g]
  rw [if_neg g] at hg
  by_cases c1 : x.f0 = 1
  · rw [if_pos c1]
    obtain ⟨e, f⟩ := map_is x.f3 cols p
    exact ⟨Ev.congr (fun k => by rw [plan_typer_of.h, hg, Option.bind_some, if_neg (by decide), if_pos c1]) e, f⟩
  rw [if_neg c1]
  by_cases c2 : x.f0 = 2
  · rw [if_pos c2]
    by_cases n : (x.f3.length : Int) = 1
    · rw [if_pos n]
      obtain ⟨e, f⟩ := map_is x.f3 cols p
      have st : ∀ k, plan_typer_of.h k x.f0 x.f1 x.f2 x.f3 x.f4 x.f5 x.f6 x.f7 x.f8 kinds cols p = (plan_mapped.f k x.f3 cols p).bind fun r => (if r.2.1 = 0 then (if 0 < (r.1.length : Int) then (if rd r.1 0 = 0 then ((slices_Clone_int_int.f cols).bind fun t => some (t, 0, 0)) else (some (([] : List Int), 80, p))) else none) else (some (([] : List Int), r.2.1, r.2.2))) := fun k => by
        rw [plan_typer_of.h, hg, Option.bind_some, if_neg (by decide), if_neg c1, if_pos c2, if_pos n]
      by_cases z : (mapP x.f3 cols).2 = 0
      · rw [if_pos z]
        have e2 : atP (mapP x.f3 cols) p = ((mapP x.f3 cols).1, 0, 0) := by unfold atP; rw [if_pos z]
        rw [e2] at e
        have hlen : 0 < ((mapP x.f3 cols).1.length : Int) := by
          have hm : mapP x.f3 cols = mapF cols x.f3 := by unfold mapP; rw [if_neg (by omega), if_neg (by omega)]
          rw [hm] at z ⊢
          rw [mapF_ok cols x.f3 z]; omega
        by_cases y : rd (mapP x.f3 cols).1 0 = 0
        · rw [if_pos y, at_ok]
          exact ⟨Ev.congr st (Ev.bind e (Ev.congr (fun k => by rw [if_pos rfl, if_pos hlen, if_pos y, hcl, Option.bind_some]) (Ev.now _))), few_ok hc⟩
        · rw [if_neg y, at_bad (by decide)]
          exact ⟨Ev.congr st (Ev.bind e (Ev.congr (fun k => by rw [if_pos rfl, if_pos hlen, if_neg y]) (Ev.now _))), few_bad 80 (by decide)⟩
      · rw [if_neg z, at_bad z]
        have e2 : atP (mapP x.f3 cols) p = ([], (mapP x.f3 cols).2, p) := by unfold atP; rw [if_neg z]
        rw [e2] at e
        exact ⟨Ev.congr st (Ev.bind e (Ev.congr (fun k => by rw [if_neg z]) (Ev.now _))), few_bad _ f.2.1⟩
    · rw [if_neg n, at_bad (by decide)]
      exact ⟨Ev.congr (fun k => by rw [plan_typer_of.h, hg, Option.bind_some, if_neg (by decide), if_neg c1, if_pos c2, if_neg n]) (Ev.now _), few_bad 1 (by decide)⟩
  rw [if_neg c2]
  by_cases c3 : x.f0 = 3
  · rw [if_pos c3]
    obtain ⟨e, f⟩ := proj_is x.f4 cols p (by omega)
    exact ⟨Ev.congr (fun k => by rw [plan_typer_of.h, hg, Option.bind_some, if_neg (by decide), if_neg c1, if_neg c2, if_pos c3]) e, f⟩
  rw [if_neg c3]
  by_cases c4 : x.f0 = 4
  · rw [if_pos c4]
    have st : ∀ k, plan_typer_of.h k x.f0 x.f1 x.f2 x.f3 x.f4 x.f5 x.f6 x.f7 x.f8 kinds cols p = plan_typer_of.l0 k x.f1 kinds cols p ((0 : Nat) : Int) := fun k => by
      rw [plan_typer_of.h, hg, Option.bind_some, if_neg (by decide), if_neg c1, if_neg c2, if_neg c3, if_pos c4]; rfl
    by_cases a : x.f1.all (fun i => decide (rd_L3 kinds i = cols)) = true
    · rw [if_pos a] at hr ⊢
      rw [at_ok]
      exact ⟨Ev.congr st hr, few_ok hc⟩
    · rw [if_neg a] at hr ⊢
      rw [at_bad (by decide)]
      exact ⟨Ev.congr st hr, few_bad 80 (by decide)⟩
  rw [if_neg c4]
  by_cases c7 : x.f0 = 7
  · rw [if_pos c7]
    obtain ⟨e, f⟩ := bucket_is x.f0 x.f1 x.f2 x.f3 x.f4 x.f5 x.f6 x.f7 x.f8 cols p (by omega)
    exact ⟨Ev.congr (fun k => by rw [plan_typer_of.h, hg, Option.bind_some, if_neg (by decide), if_neg c1, if_neg c2, if_neg c3, if_neg c4, if_pos c7]) e, f⟩
  rw [if_neg c7]
  by_cases c15 : x.f0 = 15
  · rw [if_pos c15]
    obtain ⟨e, f⟩ := join_is x.f5 cols (rd_L3 kinds (rd x.f1 1)) p (by omega) (by omega)
    have := h15 c15
    exact ⟨Ev.congr (fun k => by rw [plan_typer_of.h, hg, Option.bind_some, if_neg (by decide), if_neg c1, if_neg c2, if_neg c3, if_neg c4, if_neg c7, if_pos c15, if_pos (by omega), if_pos (i1 c15).1, if_pos (i1 c15).2]) e, f⟩
  rw [if_neg c15]
  by_cases c8 : x.f0 = 8
  · rw [if_pos c8]
    have st : ∀ k, plan_typer_of.h k x.f0 x.f1 x.f2 x.f3 x.f4 x.f5 x.f6 x.f7 x.f8 kinds cols p = (if decide (0 ≤ x.f5 ∧ x.f5 ≤ (cols.length : Int)) = true then some (cols, 0, 0) else some (([] : List Int), 9, p)) := fun k => by
      rw [plan_typer_of.h, hg, Option.bind_some, if_neg (by decide), if_neg c1, if_neg c2, if_neg c3, if_neg c4, if_neg c7, if_neg c15, if_pos c8, between_is, Option.bind_some, hcl, Option.bind_some]
    by_cases b : 0 ≤ x.f5 ∧ x.f5 ≤ (cols.length : Int)
    · rw [if_pos b, at_ok]
      exact ⟨Ev.congr (fun k => (st k).trans (if_pos (decide_eq_true b))) (Ev.now _), few_ok hc⟩
    · rw [if_neg b, at_bad (by decide)]
      exact ⟨Ev.congr (fun k => (st k).trans (if_neg (by simp only [decide_eq_true_eq]; exact b))) (Ev.now _), few_bad 9 (by decide)⟩
  · rw [if_neg c8, at_ok]
    exact ⟨Ev.congr (fun k => by rw [plan_typer_of.h, hg, Option.bind_some, if_neg (by decide), if_neg c1, if_neg c2, if_neg c3, if_neg c4, if_neg c7, if_neg c15, if_neg c8, hcl, Option.bind_some]) (Ev.now _), few_ok hc⟩
theorem of_is (nodes : List S42) (kinds : List (List Int)) (p : Nat) (hp : p < nodes.length) (h1 : (rd_T42 nodes (p : Int)).f0 ≠ 0 → 0 < (rd_T42 nodes (p : Int)).f1.length) (h15 : (rd_T42 nodes (p : Int)).f0 = 15 → 1 < (rd_T42 nodes (p : Int)).f1.length) (hl : (rd_T42 nodes (p : Int)).f1.length ≤ 100) (hins : ∀ i ∈ (rd_T42 nodes (p : Int)).f1, 0 ≤ i ∧ i < (kinds.length : Int)) (hk : ∀ i : Int, (rd_L3 kinds i).length ≤ 16) :
    Ev (fun k => plan_typer_of.f k nodes kinds (p : Int)) (atP (ofP (rd_T42 nodes (p : Int)) kinds) (p : Int)) ∧ Few (ofP (rd_T42 nodes (p : Int)) kinds) := by
  generalize hx : rd_T42 nodes (p : Int) = x at h1 h15 hl hins ⊢
  by_cases z : x.f0 = 0
  · obtain ⟨e, f⟩ := input_is x.f2 (p : Int)
    have ee : ofP x kinds = inputP x.f2 := by unfold ofP; rw [if_pos z]
    rw [ee]
    exact ⟨Ev.congr (fun k => by rw [plan_typer_of.f, if_pos (by omega), if_pos (by omega), hx, plan_typer_of.g, if_pos z]) e, f⟩
  · obtain ⟨e, f⟩ := ofh_is x kinds (p : Int) z (h1 z) h15 hl hins hk
    have h0 := h1 z
    have hr := rd_get h0
    rw [show ((0 : Nat) : Int) = 0 from rfl] at hr
    have hin := hins _ (List.getElem_mem h0)
    rw [← hr] at hin
    exact ⟨Ev.congr (fun k => by rw [plan_typer_of.f, if_pos (by omega), if_pos (by omega), hx, plan_typer_of.g, if_neg z, if_pos (by omega), if_pos hin.1, if_pos hin.2]) e, f⟩
/-- The ins of a node. -/
def insOf (nodes : List S42) (a : Int) : List Int := (rd_T42 nodes a).f1
/-- One comes from a node tg another one, by ins, in one step or more. -/
inductive Path (nodes : List S42) : Int → Int → Prop
  | one {a b : Int} : b ∈ insOf nodes a → Path nodes a b
  | more {a b c : Int} : Path nodes a b → c ∈ insOf nodes b → Path nodes a c
theorem Path.first {nodes : List S42} {a b c : Int} (h : b ∈ insOf nodes a) (k : Path nodes b c) : Path nodes a c := by
  induction k with
  | one h2 => exact .more (.one h) h2
  | more _ h2 ih => exact .more ih h2
def unseen (l : List Bool) : Nat := (l.filter (fun b => !b)).length
theorem unseen_set : ∀ (l : List Bool) (i : Nat) (h : i < l.length), l[i] = false → unseen (l.set i true) + 1 = unseen l
  | b :: l, 0, _, h => by
    have : b = false := h
    subst this
    simp [unseen]
  | b :: l, i + 1, h, e => by
    have h2 : i < l.length := by simpa using h
    have ih := unseen_set l i h2 (by simpa using e)
    unfold unseen at ih ⊢
    cases b <;> simp at ih ⊢ <;> omega
theorem unseen_new (n : Nat) : unseen (List.replicate n false) = n := by
  induction n with
  | zero => rfl
  | succ n ih => unfold unseen at ih ⊢; rw [List.replicate_succ]; simp
theorem rdOf_set {l : List Bool} {i c : Int} (hi0 : 0 ≤ i) (hi : i < (l.length : Int)) (hc : 0 ≤ c) : rdOf false (l.set i.toNat true) c = if c = i then true else rdOf false l c := by
  unfold rdOf
  rw [List.getD_eq_getElem?_getD, List.getD_eq_getElem?_getD]
  by_cases h : c = i
  · subst h
    rw [if_pos rfl, List.getElem?_set_self (by omega)]; rfl
  · rw [if_neg h, List.getElem?_set_ne (by omega)]
theorem rdOf_get {l : List Bool} {i : Int} (hi0 : 0 ≤ i) (hi : i < (l.length : Int)) : rdOf false l i = l[i.toNat]'(by omega) := by
  unfold rdOf
  rw [List.getD_eq_getElem?_getD, List.getElem?_eq_getElem (by omega)]; rfl
/-- What shape has shown. -/
structure Sound (nodes : List S42) : Prop where
  few : nodes.length ≤ 70
  len : ∀ a : Int, 0 ≤ a → a < (nodes.length : Int) → (insOf nodes a).length ≤ 20
  inr : ∀ a : Int, 0 ≤ a → a < (nodes.length : Int) → ∀ c ∈ insOf nodes a, 0 ≤ c ∧ c < (nodes.length : Int)
theorem reach_nil (nodes : List S42) (hs : Sound nodes) (outs : List Int) (room fr tg : Int) (hf0 : 0 ≤ fr) (hf1 : fr < (nodes.length : Int)) (seen : List Bool)
    (hseen : ∀ c : Int, 0 ≤ c → c < (nodes.length : Int) → rdOf false seen c = true → c ≠ tg ∧ ∀ d ∈ insOf nodes c, d ∈ ([] : List Int) ∨ rdOf false seen d = true)
    (hfr : ∀ c ∈ insOf nodes fr, c ∈ ([] : List Int) ∨ rdOf false seen c = true) :
    ∃ b, Ev (fun k => plan_reaches.l0 k tg seen [] nodes outs room) b ∧ (b = true ↔ Path nodes fr tg) := by
  refine ⟨false, Ev.step (fun k => by rw [plan_reaches.l0, if_neg (by simp)]) (Ev.now _), ⟨fun h => (by cases h), fun h => ?_⟩⟩
  have all : ∀ {a c : Int}, Path nodes a c → a = fr → 0 ≤ c ∧ c < (nodes.length : Int) ∧ rdOf false seen c = true := fun {a c} hp => by
    induction hp with
    | one h2 =>
      intro e; subst e
      have := hs.inr _ hf0 hf1 _ h2
      rcases hfr _ h2 with h3 | h3
      · cases h3
      · exact ⟨this.1, this.2, h3⟩
    | more _ h2 ih =>
      intro e
      have i := ih e
      have := hs.inr _ i.1 i.2.1 _ h2
      rcases (hseen _ i.1 i.2.1 i.2.2).2 _ h2 with h3 | h3
      · cases h3
      · exact ⟨this.1, this.2, h3⟩
  have i := all h rfl
  exact absurd rfl (hseen _ i.1 i.2.1 i.2.2).1
theorem reach_loop (nodes : List S42) (hs : Sound nodes) (outs : List Int) (room fr tg : Int) (hf0 : 0 ≤ fr) (hf1 : fr < (nodes.length : Int)) (m : Nat) : ∀ (seen : List Bool) (row : List Int), 21 * unseen seen + row.length ≤ m → m ≤ 3000 → seen.length = nodes.length →
    (∀ y ∈ row, Path nodes fr y ∧ 0 ≤ y ∧ y < (nodes.length : Int)) →
    (∀ c : Int, 0 ≤ c → c < (nodes.length : Int) → rdOf false seen c = true → c ≠ tg ∧ ∀ d ∈ insOf nodes c, d ∈ row ∨ rdOf false seen d = true) →
    (∀ c ∈ insOf nodes fr, c ∈ row ∨ rdOf false seen c = true) →
    ∃ b, Ev (fun k => plan_reaches.l0 k tg seen row nodes outs room) b ∧ (b = true ↔ Path nodes fr tg) := by
  induction m with
  | zero =>
    intro seen row hm _ hl hrow hseen hfr
    have hr : row = [] := List.eq_nil_of_length_eq_zero (by omega)
    subst hr
    exact reach_nil nodes hs outs room fr tg hf0 hf1 seen hseen hfr
  | succ m ih =>
    intro seen row hm hm3 hl hrow hseen hfr
    cases row with
    | nil => exact reach_nil nodes hs outs room fr tg hf0 hf1 seen hseen hfr
    | cons y rest =>
      have hy := hrow y List.mem_cons_self
      have hll : (y :: rest).length = rest.length + 1 := rfl
      have hlen : ((y :: rest).length : Int) > 0 := by omega
      have h1 : 1 ≤ ((y :: rest).length : Int) := by omega
      have st : ∀ k, plan_reaches.l0 (k + 1) tg seen (y :: rest) nodes outs room = if y = tg then some true else if rdOf false seen y = true then plan_reaches.l0 k tg seen rest nodes outs room else if rest.length + (insOf nodes y).length < 17592186044416 then plan_reaches.l0 k tg (seen.set y.toNat true) (rest ++ insOf nodes y) nodes outs room else none := fun k => by
        rw [plan_reaches.l0, if_pos hlen, if_pos hlen, if_pos h1, Option.bind_some]
        show (if y = tg then _ else (if 0 ≤ y then _ else _)) = _
        by_cases e : y = tg
        · rw [if_pos e, if_pos e]
        · rw [if_neg e, if_neg e, if_pos hy.2.1]
          show (if y < (seen.length : Int) then _ else _) = _
          rw [if_pos (by omega)]
          by_cases s : rdOf false seen y = true
          · rw [if_pos s]; exact if_pos s
          · rw [if_neg s]
            refine (if_neg s).trans ?_
            exact if_pos hy.2.2
      by_cases e : y = tg
      · subst e
        exact ⟨true, Ev.step (fun k => by rw [st, if_pos rfl]) (Ev.now _), ⟨fun _ => hy.1, fun _ => rfl⟩⟩
      · by_cases s : rdOf false seen y = true
        · obtain ⟨b, hb, hb2⟩ := ih seen rest (by simp at hm; omega) (by omega) hl (fun z hz => hrow z (List.mem_cons_of_mem _ hz))
            (fun c c0 c1 cs => ⟨(hseen c c0 c1 cs).1, fun d hd => by
              rcases (hseen c c0 c1 cs).2 d hd with h | h
              · rcases List.mem_cons.1 h with rfl | h
                · exact .inr s
                · exact .inl h
              · exact .inr h⟩)
            (fun c hc => by
              rcases hfr c hc with h | h
              · rcases List.mem_cons.1 h with rfl | h
                · exact .inr s
                · exact .inl h
              · exact .inr h)
          exact ⟨b, Ev.step (fun k => by rw [st, if_neg e, if_pos s]) hb, hb2⟩
        · have hyl : y < (seen.length : Int) := by omega
          have hins := hs.len y hy.2.1 hy.2.2
          have sf : rdOf false seen y = false := Bool.eq_false_iff.mpr s
          have hu := unseen_set seen y.toNat (by omega) (by rw [← rdOf_get hy.2.1 hyl]; exact sf)
          have rs : ∀ c : Int, 0 ≤ c → rdOf false (seen.set y.toNat true) c = if c = y then true else rdOf false seen c := fun c hc => rdOf_set hy.2.1 hyl hc
          have grow : ∀ d : Int, 0 ≤ d → (d ∈ y :: rest ∨ rdOf false seen d = true) → (d ∈ rest ++ insOf nodes y ∨ rdOf false (seen.set y.toNat true) d = true) := fun d d0 h => by
            rcases h with h | h
            · rcases List.mem_cons.1 h with rfl | h
              · exact .inr (by rw [rs _ d0, if_pos rfl])
              · exact .inl (List.mem_append.2 (.inl h))
            · refine .inr ?_
              rw [rs _ d0]; split
              · rfl
              · exact h
          obtain ⟨b, hb, hb2⟩ := ih (seen.set y.toNat true) (rest ++ insOf nodes y) (by rw [List.length_append]; simp at hm; omega) (by omega) (by rw [List.length_set]; exact hl)
            (fun z hz => by
              rcases List.mem_append.1 hz with h | h
              · exact hrow z (List.mem_cons_of_mem _ h)
              · exact ⟨.more hy.1 h, hs.inr y hy.2.1 hy.2.2 z h⟩)
            (fun c c0 c1 cs => by
              rw [rs c c0] at cs
              by_cases cy : c = y
              · subst cy
                exact ⟨e, fun d hd => .inl (List.mem_append.2 (.inr hd))⟩
              · rw [if_neg cy] at cs
                exact ⟨(hseen c c0 c1 cs).1, fun d hd => grow d (hs.inr c c0 c1 d hd).1 ((hseen c c0 c1 cs).2 d hd)⟩)
            (fun c hc => grow c (hs.inr fr hf0 hf1 c hc).1 (hfr c hc))
          exact ⟨b, Ev.step (fun k => by rw [st, if_neg e, if_neg s, if_pos (by simp at hm; omega)]) hb, hb2⟩
theorem reach_is (nodes : List S42) (hs : Sound nodes) (outs : List Int) (room : Int) (i : Int) (h0 : 0 ≤ i) (h1 : i < (nodes.length : Int)) : ∃ b, Ev (fun k => plan_reaches.f k nodes outs room i i) b ∧ (b = true ↔ Path nodes i i) := by
  have hn := hs.few
  have hl := hs.len i h0 h1
  obtain ⟨b, hb, hb2⟩ := reach_loop nodes hs outs room i i h0 h1 (21 * nodes.length + 20) (List.replicate nodes.length false) (insOf nodes i) (by rw [unseen_new]; omega) (by omega) (by simp)
    (fun y hy => ⟨.one hy, hs.inr i h0 h1 y hy⟩)
    (fun c c0 c1 cs => by
      unfold rdOf at cs
      rw [List.getD_eq_getElem?_getD, List.getElem?_replicate, if_pos (by omega)] at cs
      cases cs)
    (fun c hc => .inl hc)
  refine ⟨b, ?_, hb2⟩
  refine Ev.congr (fun k => ?_) hb
  rw [plan_reaches.f, if_pos (by omega), if_pos (by omega), if_pos h0, if_pos h1]
  show (slices_Clone_int_int.f (insOf nodes i)).bind _ = _
  rw [clone_is _ (by omega), Option.bind_some, Int.toNat_natCast]
theorem order0_is (nodes : List S42) (hs : Sound nodes) (outs : List Int) (room : Int) (d : Nat) : ∀ (i : Nat), i ≤ nodes.length → nodes.length - i = d →
    ∃ (b : Bool) (a : Nat), Ev (fun k => plan_order.l0 k nodes outs room (i : Int)) (b, (a : Int)) ∧ (b = true → i ≤ a ∧ a < nodes.length ∧ Path nodes (a : Int) (a : Int) ∧ ∀ j : Nat, i ≤ j → j < a → ¬ Path nodes (j : Int) (j : Int)) ∧ (b = false → ∀ j : Nat, i ≤ j → j < nodes.length → ¬ Path nodes (j : Int) (j : Int)) := by
  have hn := hs.few
  induction d with
  | zero =>
    intro i hi hd
    exact ⟨false, 0, Ev.step (fun k => by rw [plan_order.l0, if_neg (by omega)]; rfl) (Ev.now _), fun h => (by cases h), fun _ j h1 h2 => by omega⟩
  | succ d ih =>
    intro i hi hd
    obtain ⟨b, hb, hb2⟩ := reach_is nodes hs outs room (i : Int) (by omega) (by omega)
    have st : ∀ k, plan_order.l0 (k + 1) nodes outs room (i : Int) = (plan_reaches.f k nodes outs room (i : Int) (i : Int)).bind fun t => (if t = true then some (true, (i : Int)) else (plan_order.l0 k nodes outs room ((i + 1 : Nat) : Int))) := fun k => by
      rw [plan_order.l0, if_pos (by omega), wnext i (by omega)]
    cases b with
    | true => exact ⟨true, i, Ev.step st (Ev.bind hb (Ev.congr (fun k => if_pos rfl) (Ev.now _))), fun _ => ⟨Nat.le_refl _, by omega, hb2.1 rfl, fun j h1 h2 => by omega⟩, fun h => (by cases h)⟩
    | false =>
      have np : ¬ Path nodes (i : Int) (i : Int) := fun h => by have := hb2.2 h; cases this
      obtain ⟨b2, a, e, t1, t2⟩ := ih (i + 1) (by omega) (by omega)
      refine ⟨b2, a, Ev.step st (Ev.bind hb (Ev.congr (fun k => if_neg (by decide)) e)), fun h => ?_, fun h j h1 h2 => ?_⟩
      · obtain ⟨h1, h2, h3, h4⟩ := t1 h
        refine ⟨by omega, h2, h3, fun j h5 h6 => ?_⟩
        rcases Nat.eq_or_lt_of_le h5 with rfl | h7
        · exact np
        · exact h4 j h7 h6
      · rcases Nat.eq_or_lt_of_le h1 with rfl | h7
        · exact np
        · exact t2 h j h7 h2
/-- May a node be the next one? -/
def readyP (nodes : List S42) (done : List Bool) (j : Int) : Bool := !(rdOf false done j) && !((insOf nodes j).any (fun x => !(rdOf false done x)))
def nextF (nodes : List S42) (done : List Bool) : Nat → Nat → Int
  | _, 0 => -1
  | j, m + 1 => if readyP nodes done (j : Int) = true then (j : Int) else nextF nodes done (j + 1) m
theorem idx_any (p : Int → Bool) (l : List Int) : decide (0 ≤ idx p l) = l.any p := by
  unfold idx
  cases h : l.findIdx? p with
  | none =>
    rw [List.findIdx?_eq_none_iff] at h
    have : l.any p = false := by rw [List.any_eq_false]; intro x hx; simpa using h x hx
    rw [this]; decide
  | some i =>
    rw [List.findIdx?_eq_some_iff_getElem] at h
    obtain ⟨hi, h1, _⟩ := h
    have : l.any p = true := List.any_eq_true.2 ⟨l[i], List.getElem_mem hi, h1⟩
    rw [this]; simp
theorem ndone_is (done : List Bool) (l : List Int) (h : ∀ x ∈ l, 0 ≤ x ∧ x < (done.length : Int)) : plan_ndone done l = some (l.any (fun x => !(rdOf false done x))) := by
  unfold plan_ndone
  rw [if_pos (List.all_eq_true.2 fun x hx => by simpa using h x hx), idx_any]
theorem next_held (nodes : List S42) (hn : nodes.length ≤ 70) (done : List Bool) (i6 : Int) (h6 : 0 ≤ i6) (d : Nat) : ∀ (j : Nat), j ≤ nodes.length → nodes.length - j = d → Ev (fun k => plan_order.l2 k nodes done i6 (j : Int)) i6 := by
  induction d with
  | zero =>
    intro j hj hd
    exact Ev.step (fun k => by rw [plan_order.l2, if_neg (by omega)]) (Ev.now _)
  | succ d ih =>
    intro j hj hd
    exact Ev.step (fun k => by rw [plan_order.l2, if_pos (by omega), if_pos (by omega), if_neg (by omega), wnext j (by omega)]) (ih (j + 1) (by omega) (by omega))
theorem next_is (nodes : List S42) (hs : Sound nodes) (done : List Bool) (hl : done.length = nodes.length) (d : Nat) : ∀ (j : Nat), j ≤ nodes.length → nodes.length - j = d → Ev (fun k => plan_order.l2 k nodes done (-1) (j : Int)) (nextF nodes done j d) := by
  have hn := hs.few
  induction d with
  | zero =>
    intro j hj hd
    exact Ev.step (fun k => by rw [plan_order.l2, if_neg (by omega)]; rfl) (Ev.now _)
  | succ d ih =>
    intro j hj hd
    have nd := ndone_is done (insOf nodes (j : Int)) (fun x hx => by have := hs.inr (j : Int) (by omega) (by omega) x hx; omega)
    rw [nextF]
    unfold readyP
    by_cases a : rdOf false done (j : Int) = true
    · rw [if_neg (by rw [a]; simp)]
      exact Ev.step (fun k => by rw [plan_order.l2, if_pos (by omega), if_pos (by omega), if_pos (by omega), if_pos (by omega), if_pos a, wnext j (by omega)]) (ih (j + 1) (by omega) (by omega))
    · have af : rdOf false done (j : Int) = false := Bool.eq_false_iff.mpr a
      have st : ∀ k, plan_order.l2 (k + 1) nodes done (-1) (j : Int) = if (insOf nodes (j : Int)).any (fun x => !(rdOf false done x)) = true then plan_order.l2 k nodes done (-1) ((j + 1 : Nat) : Int) else plan_order.l2 k nodes done (j : Int) ((j + 1 : Nat) : Int) := fun k => by
        rw [plan_order.l2, if_pos (by omega), if_pos (by omega), if_pos (by omega), if_pos (by omega), if_neg a, wnext j (by omega)]
        show (plan_ndone done (insOf nodes (j : Int))).bind _ = _
        rw [nd, Option.bind_some]
      by_cases b : (insOf nodes (j : Int)).any (fun x => !(rdOf false done x)) = true
      · rw [if_neg (by rw [b]; simp)]
        exact Ev.step (fun k => by rw [st, if_pos b]) (ih (j + 1) (by omega) (by omega))
      · rw [if_pos (by rw [af, Bool.eq_false_iff.mpr b]; rfl)]
        exact Ev.step (fun k => by rw [st, if_neg b]) (next_held nodes hn done (j : Int) (by omega) d (j + 1) (by omega) (by omega))
theorem next_found (nodes : List S42) (done : List Bool) (d : Nat) : ∀ (j r : Nat), j ≤ r → r < j + d → readyP nodes done (r : Int) = true → ∃ i : Nat, nextF nodes done j d = (i : Int) ∧ j ≤ i ∧ i < j + d ∧ readyP nodes done (i : Int) = true := by
  induction d with
  | zero => intro j r h1 h2; omega
  | succ d ih =>
    intro j r h1 h2 h3
    rw [nextF]
    by_cases h : readyP nodes done (j : Int) = true
    · rw [if_pos h]; exact ⟨j, rfl, Nat.le_refl _, by omega, h⟩
    · rw [if_neg h]
      have : r ≠ j := fun e => h (by rw [← e]; exact h3)
      obtain ⟨i, e1, e2, e3, e4⟩ := ih (j + 1) r (by omega) (by omega) h3
      exact ⟨i, e1, by omega, by omega, e4⟩
/-- How many nodes one comes to. -/
noncomputable def rank (nodes : List S42) (a : Int) : Nat := ((List.range nodes.length).filter (fun j : Nat => @decide (Path nodes a (j : Int)) (Classical.propDecidable _))).length
theorem filter_lt {p q : Nat → Bool} : ∀ (l : List Nat), (∀ x, p x = true → q x = true) → (∃ x ∈ l, q x = true ∧ p x = false) → (l.filter p).length < (l.filter q).length
  | [], _, ⟨_, h, _⟩ => by cases h
  | x :: l, hpq, h => by
    have le : ∀ (l : List Nat), (l.filter p).length ≤ (l.filter q).length := fun l => by
      induction l with
      | nil => simp
      | cons y l ih =>
        cases hp : p y
        · cases hq : q y <;> simp [hp, hq] <;> omega
        · simp [hp, hpq y hp]; omega
    obtain ⟨y, hy, hq, hp⟩ := h
    rcases List.mem_cons.1 hy with rfl | hy
    · have := le l
      simp [hq, hp]; omega
    · have ih := filter_lt l hpq ⟨y, hy, hq, hp⟩
      cases hpx : p x
      · cases hqx : q x <;> simp [hpx, hqx] <;> omega
      · simp [hpx, hpq x hpx]; omega
theorem rank_lt (nodes : List S42) (a b : Int) (h : b ∈ insOf nodes a) (h0 : 0 ≤ b) (h1 : b < (nodes.length : Int)) (hb : ¬ Path nodes b b) : rank nodes b < rank nodes a := by
  unfold rank
  refine filter_lt _ (fun x hx => ?_) ⟨b.toNat, List.mem_range.2 (by omega), ?_, ?_⟩
  · exact @decide_eq_true _ (Classical.propDecidable _) (Path.first h (@of_decide_eq_true _ (Classical.propDecidable _) hx))
  · refine @decide_eq_true _ (Classical.propDecidable _) ?_
    rw [Int.toNat_of_nonneg h0]
    exact .one h
  · refine @decide_eq_false _ (Classical.propDecidable _) ?_
    rw [Int.toNat_of_nonneg h0]
    exact hb
theorem ready_some (nodes : List S42) (hs : Sound nodes) (done : List Bool) (hc : ∀ j : Nat, j < nodes.length → ¬ Path nodes (j : Int) (j : Int)) (m : Nat) : ∀ (a : Int), 0 ≤ a → a < (nodes.length : Int) → rank nodes a ≤ m → rdOf false done a = false → ∃ r : Nat, r < nodes.length ∧ readyP nodes done (r : Int) = true := by
  induction m with
  | zero =>
    intro a a0 a1 hr hd
    refine ⟨a.toNat, by omega, ?_⟩
    rw [Int.toNat_of_nonneg a0]
    unfold readyP
    have : (insOf nodes a).any (fun x => !(rdOf false done x)) = false := by
      rw [List.any_eq_false]
      intro x hx
      have hin := hs.inr a a0 a1 x hx
      have := rank_lt nodes a x hx hin.1 hin.2 (by have := hc x.toNat (by omega); rwa [Int.toNat_of_nonneg hin.1] at this)
      omega
    rw [hd, this]; rfl
  | succ m ih =>
    intro a a0 a1 hr hd
    by_cases b : (insOf nodes a).any (fun x => !(rdOf false done x)) = true
    · obtain ⟨x, hx, hx2⟩ := List.any_eq_true.1 b
      have hin := hs.inr a a0 a1 x hx
      have := rank_lt nodes a x hx hin.1 hin.2 (by have := hc x.toNat (by omega); rwa [Int.toNat_of_nonneg hin.1] at this)
      exact ih x hin.1 hin.2 (by omega) (by simpa using hx2)
    · refine ⟨a.toNat, by omega, ?_⟩
      rw [Int.toNat_of_nonneg a0]
      unfold readyP
      rw [hd, Bool.eq_false_iff.mpr b]; rfl
/-- The order. -/
def orderF (nodes : List S42) : Nat → List Bool → List Int
  | 0, _ => []
  | m + 1, done => nextF nodes done 0 nodes.length :: orderF nodes m (done.set (nextF nodes done 0 nodes.length).toNat true)
/-- Each comes once, behind its ins. -/
def Orderly (nodes : List S42) : List Bool → List Int → Prop
  | _, [] => True
  | done, i :: l => 0 ≤ i ∧ i < (nodes.length : Int) ∧ rdOf false done i = false ∧ (∀ c ∈ insOf nodes i, rdOf false done c = true) ∧ Orderly nodes (done.set i.toNat true) l
theorem unseen_pos : ∀ (l : List Bool), 0 < unseen l → ∃ i : Nat, i < l.length ∧ rdOf false l (i : Int) = false
  | [], h => by simp [unseen] at h
  | b :: l, h => by
    cases b with
    | false => exact ⟨0, by simp, rfl⟩
    | true =>
      obtain ⟨i, h1, h2⟩ := unseen_pos l (by simpa [unseen] using h)
      refine ⟨i + 1, by simpa using h1, ?_⟩
      unfold rdOf at h2 ⊢
      rw [Int.toNat_natCast] at h2 ⊢
      simpa using h2
theorem orderF_len (nodes : List S42) : ∀ (m : Nat) (done : List Bool), (orderF nodes m done).length = m
  | 0, _ => rfl
  | m + 1, done => by rw [orderF, List.length_cons, orderF_len]
theorem order1_is (nodes : List S42) (hs : Sound nodes) (hc : ∀ j : Nat, j < nodes.length → ¬ Path nodes (j : Int) (j : Int)) (m : Nat) : ∀ (done : List Bool) (out : List Int), out.length + m = nodes.length → done.length = nodes.length → unseen done = m →
    Ev (fun k => plan_order.l1 k nodes done out) (out ++ orderF nodes m done) ∧ Orderly nodes done (orderF nodes m done) := by
  have hn := hs.few
  induction m with
  | zero =>
    intro done out ho hl hu
    rw [orderF, List.append_nil]
    exact ⟨Ev.step (fun k => by rw [plan_order.l1, if_neg (by omega)]) (Ev.now _), trivial⟩
  | succ m ih =>
    intro done out ho hl hu
    obtain ⟨a, ha, hda⟩ := unseen_pos done (by omega)
    obtain ⟨r, hr, hrd⟩ := ready_some nodes hs done hc _ (a : Int) (by omega) (by omega) (Nat.le_refl _) hda
    obtain ⟨i, e1, e2, e3, e4⟩ := next_found nodes done nodes.length 0 r (by omega) (by omega) hrd
    have ne := next_is nodes hs done hl nodes.length 0 (by omega) (by omega)
    rw [orderF]
    rw [e1] at ne ⊢
    unfold readyP at e4
    rw [Bool.and_eq_true] at e4
    have d0 : rdOf false done (i : Int) = false := by simpa using e4.1
    have hu2 := unseen_set done (i : Int).toNat (by omega) (by rw [← rdOf_get (by omega) (by omega)]; exact d0)
    obtain ⟨t1, t2⟩ := ih (done.set (i : Int).toNat true) (out ++ [(i : Int)]) (by rw [List.length_append]; simp; omega) (by rw [List.length_set]; exact hl) (by omega)
    rw [List.append_assoc] at t1
    have st : ∀ k, plan_order.l1 (k + 1) nodes done out = (plan_order.l2 k nodes done (-1) ((0 : Nat) : Int)).bind fun i => (if 0 ≤ i then (if i < (done.length : Int) then (if out.length < 17592186044416 then (plan_order.l1 k nodes (done.set i.toNat true) (out ++ [i])) else none) else none) else none) := fun k => by
      rw [plan_order.l1, if_pos (by omega)]; rfl
    refine ⟨Ev.step st (Ev.bind ne (Ev.congr (fun k => (if_pos (by omega)).trans ((if_pos (by omega)).trans (if_pos (by omega)))) t1)), by omega, by omega, d0, fun c hcin => ?_, t2⟩
    have h5 := e4.2
    simp only [Bool.not_eq_true', List.any_eq_false] at h5
    have := h5 c hcin
    simpa using this
theorem order_is (nodes : List S42) (hs : Sound nodes) (outs : List Int) (room : Int) :
    (∃ a : Nat, a < nodes.length ∧ Path nodes (a : Int) (a : Int) ∧ (∀ j : Nat, j < a → ¬ Path nodes (j : Int) (j : Int)) ∧ Ev (fun k => plan_order.f k nodes outs room) ([], 160, (a : Int))) ∨
    ((∀ j : Nat, j < nodes.length → ¬ Path nodes (j : Int) (j : Int)) ∧ Ev (fun k => plan_order.f k nodes outs room) (orderF nodes nodes.length (List.replicate nodes.length false), 0, 0) ∧ Orderly nodes (List.replicate nodes.length false) (orderF nodes nodes.length (List.replicate nodes.length false))) := by
  have hn := hs.few
  obtain ⟨b, a, e, t1, t2⟩ := order0_is nodes hs outs room nodes.length 0 (by omega) (by omega)
  cases b with
  | true =>
    obtain ⟨h1, h2, h3, h4⟩ := t1 rfl
    exact .inl ⟨a, h2, h3, fun j hj => h4 j (by omega) hj, Ev.bind e (Ev.congr (fun k => if_pos rfl) (Ev.now _))⟩
  | false =>
    have hc : ∀ j : Nat, j < nodes.length → ¬ Path nodes (j : Int) (j : Int) := fun j hj => t2 rfl j (by omega) hj
    obtain ⟨u1, u2⟩ := order1_is nodes hs hc nodes.length (List.replicate nodes.length false) [] (by simp) (by simp) (unseen_new _)
    rw [List.nil_append] at u1
    exact .inr ⟨hc, Ev.bind e (Ev.congr (fun k => (if_neg (by simp)).trans (if_pos (by omega))) (Ev.bind u1 (Ev.now _))), u2⟩
/-- What is asked of a plan, not of its nodes. -/
def wholeP (nodes : List S42) (outs : List Int) (room : Int) : Int :=
  if (nodes.length : Int) > 64 ∨ (outs.length : Int) > 8 then 3
  else if (nodes.length : Int) = 0 ∨ (outs.length : Int) = 0 ∨ ¬ (1 ≤ room ∧ room ≤ 65536) then 1
  else if outs.all (fun o => decide (0 ≤ o ∧ o ≤ (nodes.length : Int) - 1)) = true then 0 else 9
theorem whole_loop (n : Nat) (hn : n ≤ 70) (outs : List Int) (ho : outs.length ≤ 20) (d : Nat) : ∀ (i : Nat), i ≤ outs.length → outs.length - i = d →
    Ev (fun k => plan_whole.l0 k (n : Int) outs (outs.length : Int) (i : Int)) (if (outs.drop i).all (fun o => decide (0 ≤ o ∧ o ≤ (n : Int) - 1)) = true then (0, 0) else (9, (n : Int))) := by
  induction d with
  | zero =>
    intro i hi hd
    rw [List.drop_eq_nil_of_le (by omega), if_pos (show ([] : List Int).all _ = true from rfl)]
    exact Ev.step (fun k => by rw [plan_whole.l0, if_neg (by omega)]) (Ev.now _)
  | succ d ih =>
    intro i hi hd
    have hlt : i < outs.length := by omega
    rw [List.drop_eq_getElem_cons hlt, List.all_cons]
    have hr := rd_get hlt
    have st : ∀ k, plan_whole.l0 (k + 1) (n : Int) outs (outs.length : Int) (i : Int) = if decide (0 ≤ outs[i] ∧ outs[i] ≤ (n : Int) - 1) = true then plan_whole.l0 k (n : Int) outs (outs.length : Int) ((i + 1 : Nat) : Int) else some (9, (n : Int)) := fun k => by
      rw [plan_whole.l0, if_pos (by omega), if_pos (by omega), if_pos (by omega), hr, between_is, wpred _ (by omega), Option.bind_some, wnext i (by omega)]
    cases h : decide (0 ≤ outs[i] ∧ outs[i] ≤ (n : Int) - 1) with
    | true =>
      rw [Bool.true_and]
      exact Ev.step (fun k => by rw [st, if_pos h]) (ih (i + 1) (by omega) (by omega))
    | false =>
      rw [Bool.false_and, if_neg (by decide)]
      exact Ev.step (fun k => by rw [st, h, if_neg (by decide)]) (Ev.now _)
theorem whole_is (nodes : List S42) (outs : List Int) (room : Int) (hn : nodes.length ≤ 70) (ho : outs.length ≤ 20) : Ev (fun k => plan_whole.f k nodes outs room) (if wholeP nodes outs room = 0 then (0, 0) else (wholeP nodes outs room, (nodes.length : Int))) ∧ wholeP nodes outs room ≤ 100 := by
  refine ⟨?_, by unfold wholeP; (repeat' split) <;> decide⟩
  have st : ∀ r, Ev (fun k => plan_whole.j0 k (nodes.length : Int) (decide ((nodes.length : Int) > 64 ∨ (outs.length : Int) > 8)) nodes outs room) r → Ev (fun k => plan_whole.f k nodes outs room) r := fun r hr => by
    by_cases a : (nodes.length : Int) > 64
    · rw [decide_eq_true (.inl a)] at hr
      exact Ev.congr (fun k => by rw [plan_whole.f, if_pos a, decide_eq_true a]) hr
    · rw [show decide ((nodes.length : Int) > 64 ∨ (outs.length : Int) > 8) = decide ((outs.length : Int) > 8) from decide_eq_decide.2 (by omega)] at hr
      exact Ev.congr (fun k => by rw [plan_whole.f, if_neg a]) hr
  refine st _ ?_
  by_cases a : (nodes.length : Int) > 64 ∨ (outs.length : Int) > 8
  · have e : wholeP nodes outs room = 3 := if_pos a
    rw [e, decide_eq_true a, if_neg (by decide)]
    exact Ev.step (fun k => by rw [plan_whole.j0, if_pos rfl]) (Ev.now _)
  rw [decide_eq_false a]
  by_cases b : (nodes.length : Int) = 0
  · have e : wholeP nodes outs room = 1 := (if_neg a).trans (if_pos (.inl b))
    rw [e, if_neg (by decide)]
    exact Ev.step (fun k => by rw [plan_whole.j0, if_neg (by decide), if_pos b]) (Ev.now _)
  by_cases c : (outs.length : Int) = 0
  · have e : wholeP nodes outs room = 1 := (if_neg a).trans (if_pos (.inr (.inl c)))
    rw [e, if_neg (by decide)]
    exact Ev.step (fun k => by rw [plan_whole.j0, if_neg (by decide), if_neg b, if_pos c]) (Ev.now _)
  by_cases e : 1 ≤ room ∧ room ≤ 65536
  · have e1 : wholeP nodes outs room = if outs.all (fun o => decide (0 ≤ o ∧ o ≤ (nodes.length : Int) - 1)) = true then 0 else 9 := (if_neg a).trans (if_neg (fun h => h.elim b (fun h => h.elim c (fun h => h e))))
    have l := whole_loop nodes.length hn outs ho outs.length 0 (by omega) (by omega)
    rw [List.drop_zero] at l
    have s2 : ∀ k, plan_whole.j0 (k + 1) (nodes.length : Int) false nodes outs room = plan_whole.l0 k (nodes.length : Int) outs (outs.length : Int) ((0 : Nat) : Int) := fun k => by
      rw [plan_whole.j0, if_neg (by decide), if_neg b, if_neg c, between_is, Option.bind_some, if_pos (decide_eq_true e)]; rfl
    by_cases f : outs.all (fun o => decide (0 ≤ o ∧ o ≤ (nodes.length : Int) - 1)) = true
    · rw [if_pos f] at l e1
      rw [e1, if_pos rfl]
      exact Ev.step s2 l
    · rw [if_neg f] at l e1
      rw [e1, if_neg (by decide)]
      exact Ev.step s2 l
  · have e1 : wholeP nodes outs room = 1 := (if_neg a).trans (if_pos (.inr (.inr e)))
    rw [e1, if_neg (by decide)]
    exact Ev.step (fun k => by rw [plan_whole.j0, if_neg (by decide), if_neg b, if_neg c, between_is, Option.bind_some, decide_eq_false e, if_neg (by decide)]) (Ev.now _)
/-- How many ins a kind may have. -/
def insOk (kind m : Int) : Bool := if kind = 0 then m == 0 else if kind = 4 then decide (1 ≤ m ∧ m ≤ 8) else if kind = 15 then m == 2 else m == 1
theorem ins_is (kind m : Int) : plan_ins.f kind m = some (insOk kind m) := by
  unfold plan_ins.f insOk
  rw [between_is, Option.bind_some]
  repeat' split
  all_goals rfl
/-- A node's fault. -/
def nodeErr (n : Int) (x : S42) : Int := if ¬ (0 ≤ x.f0 ∧ x.f0 ≤ 15) then 8 else if insOk x.f0 (x.f1.length : Int) = false then 1 else if x.f1.any (fun o => !decide (0 ≤ o ∧ o ≤ n - 1)) = true then 9 else 0
def shapeF (nodes : List S42) : Nat → Nat → Int × Int
  | _, 0 => (0, 0)
  | i, m + 1 => if nodeErr (nodes.length : Int) (rd_T42 nodes (i : Int)) = 0 then shapeF nodes (i + 1) m else (nodeErr (nodes.length : Int) (rd_T42 nodes (i : Int)), (i : Int))
theorem outs_is (l : List Int) (n : Nat) (hn : n ≤ 70) : plan_outs l (n : Int) = l.any (fun o => !decide (0 ≤ o ∧ o ≤ (n : Int) - 1)) := by
  unfold plan_outs
  rw [idx_any]
  congr 1
  funext x
  rw [between_is, wpred _ (by omega)]; rfl
theorem nodeErr_code (n : Int) (x : S42) : nodeErr n x ≤ 100 := by
  unfold nodeErr
  (repeat' split) <;> decide
theorem shape_loop (nodes : List S42) (hn : nodes.length ≤ 70) (d : Nat) : ∀ (i : Nat), i + d = nodes.length → Ev (fun k => plan_shape.l0 k nodes (nodes.length : Int) (i : Int)) (shapeF nodes i d) := by
  induction d with
  | zero =>
    intro i hi
    exact Ev.step (fun k => by rw [plan_shape.l0, if_neg (by omega)]; rfl) (Ev.now _)
  | succ d ih =>
    intro i hi
    rw [shapeF]
    have st : ∀ k, plan_shape.l0 (k + 1) nodes (nodes.length : Int) (i : Int) = if nodeErr (nodes.length : Int) (rd_T42 nodes (i : Int)) = 0 then plan_shape.l0 k nodes (nodes.length : Int) ((i + 1 : Nat) : Int) else some (nodeErr (nodes.length : Int) (rd_T42 nodes (i : Int)), (i : Int)) := fun k => by
      rw [plan_shape.l0, if_pos (by omega), if_pos (by omega), if_pos (by omega), between_is, Option.bind_some, ins_is, Option.bind_some, outs_is _ _ hn, Option.bind_some, wnext i (by omega)]
      by_cases a : 0 ≤ (rd_T42 nodes (i : Int)).f0 ∧ (rd_T42 nodes (i : Int)).f0 ≤ 15
      · rw [if_pos (decide_eq_true a)]
        cases b : insOk (rd_T42 nodes (i : Int)).f0 ((rd_T42 nodes (i : Int)).f1.length : Int) with
        | true =>
          rw [if_pos rfl]
          by_cases c : (rd_T42 nodes (i : Int)).f1.any (fun o => !decide (0 ≤ o ∧ o ≤ (nodes.length : Int) - 1)) = true
          · have e : nodeErr (nodes.length : Int) (rd_T42 nodes (i : Int)) = 9 := (if_neg (not_not_intro a)).trans ((if_neg (by rw [b]; decide)).trans (if_pos c))
            rw [if_pos c, e, if_neg (by decide)]
          · have e : nodeErr (nodes.length : Int) (rd_T42 nodes (i : Int)) = 0 := (if_neg (not_not_intro a)).trans ((if_neg (by rw [b]; decide)).trans (if_neg c))
            rw [if_neg c, e, if_pos rfl]
        | false =>
          have e : nodeErr (nodes.length : Int) (rd_T42 nodes (i : Int)) = 1 := (if_neg (not_not_intro a)).trans (if_pos b)
          rw [if_neg (by decide), e, if_neg (by decide)]
      · have e : nodeErr (nodes.length : Int) (rd_T42 nodes (i : Int)) = 8 := if_pos a
        rw [decide_eq_false a, if_neg (by decide), e, if_neg (by decide)]
    by_cases e : nodeErr (nodes.length : Int) (rd_T42 nodes (i : Int)) = 0
    · rw [if_pos e]
      exact Ev.step (fun k => by rw [st, if_pos e]) (ih (i + 1) (by omega))
    · rw [if_neg e]
      exact Ev.step (fun k => by rw [st, if_neg e]) (Ev.now _)
theorem shapeF_ok (nodes : List S42) : ∀ (d i : Nat), (shapeF nodes i d).1 ≤ 100 ∧ ((shapeF nodes i d).1 = 0 → ∀ j : Nat, i ≤ j → j < i + d → nodeErr (nodes.length : Int) (rd_T42 nodes (j : Int)) = 0)
  | 0, i => ⟨by simp [shapeF], fun _ j h1 h2 => by omega⟩
  | d + 1, i => by
    rw [shapeF]
    by_cases e : nodeErr (nodes.length : Int) (rd_T42 nodes (i : Int)) = 0
    · rw [if_pos e]
      obtain ⟨h1, h2⟩ := shapeF_ok nodes d (i + 1)
      refine ⟨h1, fun h j h3 h4 => ?_⟩
      rcases Nat.eq_or_lt_of_le h3 with rfl | h5
      · exact e
      · exact h2 h j h5 (by omega)
    · rw [if_neg e]
      exact ⟨nodeErr_code _ _, fun h => absurd h e⟩
/-- What nodeErr has shown. -/
theorem err_none {n : Int} {x : S42} (h : nodeErr n x = 0) : insOk x.f0 (x.f1.length : Int) = true ∧ ∀ c ∈ x.f1, 0 ≤ c ∧ c < n := by
  unfold nodeErr at h
  by_cases a : 0 ≤ x.f0 ∧ x.f0 ≤ 15
  · rw [if_neg (not_not_intro a)] at h
    cases b : insOk x.f0 (x.f1.length : Int) with
    | true =>
      rw [b, if_neg (by decide)] at h
      by_cases c : x.f1.any (fun o => !decide (0 ≤ o ∧ o ≤ n - 1)) = true
      · rw [if_pos c] at h; cases h
      · refine ⟨rfl, fun y hy => ?_⟩
        have := Bool.eq_false_iff.mpr c
        rw [List.any_eq_false] at this
        have := this y hy
        simp at this
        omega
    | false => rw [b, if_pos rfl] at h; cases h
  · rw [if_pos a] at h; cases h
theorem ins_few {kind m : Int} (h : insOk kind m = true) : m ≤ 8 ∧ (kind ≠ 0 → 0 < m) ∧ (kind = 15 → 1 < m) := by
  unfold insOk at h
  by_cases a : kind = 0
  · rw [if_pos a] at h; simp at h; omega
  rw [if_neg a] at h
  by_cases b : kind = 4
  · rw [if_pos b] at h; simp at h; omega
  rw [if_neg b] at h
  by_cases c : kind = 15
  · rw [if_pos c] at h; simp at h; omega
  rw [if_neg c] at h; simp at h; omega
theorem sound_of (nodes : List S42) (hn : nodes.length ≤ 70) (h : ∀ j : Nat, j < nodes.length → nodeErr (nodes.length : Int) (rd_T42 nodes (j : Int)) = 0) : Sound nodes := by
  refine ⟨hn, fun a h0 h1 => ?_, fun a h0 h1 c hc => ?_⟩
  · have e := err_none (h a.toNat (by omega))
    rw [Int.toNat_of_nonneg h0] at e
    have := (ins_few e.1).1
    unfold insOf; omega
  · have e := err_none (h a.toNat (by omega))
    rw [Int.toNat_of_nonneg h0] at e
    exact e.2 c hc
noncomputable def allF (nodes : List S42) : List Int → List (List Int) → List (List Int) × Int × Int
  | [], kinds => (kinds, 0, 0)
  | p :: l, kinds => if (ofP (rd_T42 nodes p) kinds).2 = 0 then allF nodes l (kinds.set p.toNat (ofP (rd_T42 nodes p) kinds).1) else ([], (ofP (rd_T42 nodes p) kinds).2, p)
theorem rows_set {kinds : List (List Int)} (h : ∀ i : Int, (rd_L3 kinds i).length ≤ 16) (j : Nat) {r : List Int} (hr : r.length ≤ 16) : ∀ i : Int, (rd_L3 (kinds.set j r) i).length ≤ 16 := fun i => by
  have := h i
  unfold rd_L3 at this ⊢
  rw [List.getD_eq_getElem?_getD] at this ⊢
  rw [List.getElem?_set]
  by_cases e : j = i.toNat
  · rw [if_pos e]
    split
    · exact hr
    · simp
  · rw [if_neg e]; exact this
theorem all_loop (nodes : List S42) (_ : Sound nodes) (hz : ∀ j : Nat, j < nodes.length → nodeErr (nodes.length : Int) (rd_T42 nodes (j : Int)) = 0) (l : List Int) (hl : l.length ≤ 100) (hin : ∀ p ∈ l, 0 ≤ p ∧ p < (nodes.length : Int)) (d : Nat) : ∀ (i : Nat) (kinds : List (List Int)), i ≤ l.length → l.length - i = d → kinds.length = nodes.length → (∀ i : Int, (rd_L3 kinds i).length ≤ 16) →
    Ev (fun k => plan_all.l0 k nodes l kinds (i : Int)) (allF nodes (l.drop i) kinds) ∧ (allF nodes (l.drop i) kinds).2.1 ≤ 100 := by
  induction d with
  | zero =>
    intro i kinds hi hd hk hr
    rw [List.drop_eq_nil_of_le (by omega), allF]
    exact ⟨Ev.step (fun k => by rw [plan_all.l0, if_neg (by omega)]) (Ev.now _), by simp⟩
  | succ d ih =>
    intro i kinds hi hd hk hr
    have hlt : i < l.length := by omega
    rw [List.drop_eq_getElem_cons hlt, allF]
    have hg := rd_get hlt
    obtain ⟨p0, p1⟩ := hin _ (List.getElem_mem hlt)
    generalize l[i] = p at hg p0 p1 ⊢
    obtain ⟨q, rfl⟩ : ∃ q : Nat, p = (q : Int) := ⟨p.toNat, by omega⟩
    have er := err_none (hz q (by omega))
    have fw := ins_few er.1
    obtain ⟨e, f⟩ := of_is nodes kinds q (by omega) (fun h => by have := fw.2.1 h; omega) (fun h => by have := fw.2.2 h; omega) (by have := fw.1; omega) (fun c hc => by have := er.2 c hc; omega) hr
    have st : ∀ k, plan_all.l0 (k + 1) nodes l kinds (i : Int) = (plan_typer_of.f k nodes kinds (q : Int)).bind fun r => (if r.2.1 = 0 then (if 0 ≤ (q : Int) then (if (q : Int) < (kinds.length : Int) then (plan_all.l0 k nodes l (kinds.set (q : Int).toNat r.1) ((i + 1 : Nat) : Int)) else none) else none) else some (([] : List (List Int)), r.2.1, r.2.2)) := fun k => by
      rw [plan_all.l0, if_pos (by omega), if_pos (by omega), hg, wnext i (by omega)]
    by_cases z : (ofP (rd_T42 nodes (q : Int)) kinds).2 = 0
    · rw [if_pos z]
      have e2 : atP (ofP (rd_T42 nodes (q : Int)) kinds) (q : Int) = ((ofP (rd_T42 nodes (q : Int)) kinds).1, 0, 0) := by unfold atP; rw [if_pos z]
      rw [e2] at e
      obtain ⟨t1, t2⟩ := ih (i + 1) (kinds.set (q : Int).toNat (ofP (rd_T42 nodes (q : Int)) kinds).1) (by omega) (by omega) (by rw [List.length_set]; exact hk) (rows_set hr _ f.1)
      exact ⟨Ev.step st (Ev.bind e (Ev.congr (fun k => (if_pos rfl).trans ((if_pos (by omega)).trans (if_pos (by omega)))) t1)), t2⟩
    · rw [if_neg z]
      have e2 : atP (ofP (rd_T42 nodes (q : Int)) kinds) (q : Int) = ([], (ofP (rd_T42 nodes (q : Int)) kinds).2, (q : Int)) := by unfold atP; rw [if_neg z]
      rw [e2] at e
      exact ⟨Ev.step st (Ev.bind e (Ev.congr (fun k => if_neg z) (Ev.now _))), f.2.1⟩
theorem orderly_in (nodes : List S42) : ∀ (l : List Int) (done : List Bool), Orderly nodes done l → ∀ p ∈ l, 0 ≤ p ∧ p < (nodes.length : Int)
  | [], _, _, p, h => by cases h
  | a :: l, done, h, p, hp => by
    rcases List.mem_cons.1 hp with rfl | hp
    · exact ⟨h.1, h.2.1⟩
    · exact orderly_in nodes l _ h.2.2.2.2 p hp
/-- All of a plan: order, kinds, the error and its node. -/
noncomputable def allP (nodes : List S42) (outs : List Int) (room : Int) (loop : Option Nat) : List Int × List (List Int) × Int × Int :=
  if wholeP nodes outs room ≠ 0 then ([], [], wholeP nodes outs room, (nodes.length : Int))
  else if (shapeF nodes 0 nodes.length).1 ≠ 0 then ([], [], (shapeF nodes 0 nodes.length).1, (shapeF nodes 0 nodes.length).2)
  else match loop with
    | some a => ([], [], 160, (a : Int))
    | none =>
      let r := allF nodes (orderF nodes nodes.length (List.replicate nodes.length false)) (List.replicate nodes.length [])
      if r.2.1 = 0 then (orderF nodes nodes.length (List.replicate nodes.length false), r.1, 0, (nodes.length : Int)) else ([], [], r.2.1, r.2.2)
/-- The first node of a loop. -/
def LoopAt (nodes : List S42) : Option Nat → Prop
  | some a => a < nodes.length ∧ Path nodes (a : Int) (a : Int) ∧ ∀ j : Nat, j < a → ¬ Path nodes (j : Int) (j : Int)
  | none => ∀ j : Nat, j < nodes.length → ¬ Path nodes (j : Int) (j : Int)
theorem all_is (nodes : List S42) (outs : List Int) (room : Int) (hn : nodes.length ≤ 70) (ho : outs.length ≤ 20) :
    ∃ loop, Ev (fun k => plan_all.f k nodes outs room) (allP nodes outs room loop) ∧ (wholeP nodes outs room = 0 → (shapeF nodes 0 nodes.length).1 = 0 → LoopAt nodes loop ∧ Sound nodes ∧ (loop = none → Orderly nodes (List.replicate nodes.length false) (orderF nodes nodes.length (List.replicate nodes.length false)))) ∧ ((allP nodes outs room loop).2.2.1 = 160 → ∃ a : Nat, a < nodes.length ∧ Path nodes (a : Int) (a : Int)) := by
  obtain ⟨w1, w2⟩ := whole_is nodes outs room hn ho
  have s1 := shape_loop nodes hn nodes.length 0 (by omega)
  obtain ⟨s2, s3⟩ := shapeF_ok nodes nodes.length 0
  by_cases a : wholeP nodes outs room = 0
  · rw [if_pos a] at w1
    have sh : Ev (fun k => plan_shape.f k nodes outs room) (shapeF nodes 0 nodes.length) := s1
    by_cases b : (shapeF nodes 0 nodes.length).1 = 0
    · have hz := s3 b
      have hz' : ∀ j : Nat, j < nodes.length → nodeErr (nodes.length : Int) (rd_T42 nodes (j : Int)) = 0 := fun j hj => hz j (by omega) (by omega)
      have hs := sound_of nodes hn hz'
      have e2 : shapeF nodes 0 nodes.length = (0, (shapeF nodes 0 nodes.length).2) := by rw [← b]
      rcases order_is nodes hs outs room with ⟨v, v1, v2, v3, v4⟩ | ⟨v1, v2, v3⟩
      · refine ⟨some v, ?_, fun _ _ => ⟨⟨v1, v2, v3⟩, hs, fun h => by cases h⟩, fun _ => ⟨v, v1, v2⟩⟩
        unfold allP
        rw [if_neg (not_not_intro a), if_neg (not_not_intro b)]
        exact Ev.bind w1 (Ev.congr (fun k => if_pos rfl) (Ev.bind sh (Ev.congr (fun k => if_pos b) (Ev.bind v4 (Ev.congr (fun k => if_neg (by simp)) (Ev.now _))))))
      · have hin := orderly_in nodes _ _ v3
        have hl := orderF_len nodes nodes.length (List.replicate nodes.length false)
        have r0 : ∀ i : Int, (rd_L3 (List.replicate nodes.length ([] : List Int)) i).length ≤ 16 := fun i => by
          unfold rd_L3
          rw [List.getD_eq_getElem?_getD, List.getElem?_replicate]
          split <;> simp
        obtain ⟨t1, t2⟩ := all_loop nodes hs hz' _ (by rw [hl]; omega) hin _ 0 (List.replicate nodes.length []) (by omega) rfl (by simp) r0
        rw [List.drop_zero] at t1 t2
        refine ⟨none, ?_, fun _ _ => ⟨v1, hs, fun _ => v3⟩, ?_⟩
        · have big : ∀ r, Ev (fun k => (plan_all.l0 k nodes (orderF nodes nodes.length (List.replicate nodes.length false)) (List.replicate nodes.length []) 0).bind fun r => (if r.2.1 = 0 then some (orderF nodes nodes.length (List.replicate nodes.length false), r.1, (0 : Int), (nodes.length : Int)) else some (([] : List Int), ([] : List (List Int)), r.2.1, r.2.2))) r → Ev (fun k => plan_all.f k nodes outs room) r := fun r hr =>
            Ev.bind w1 (Ev.congr (fun k => if_pos rfl) (Ev.bind sh (Ev.congr (fun k => if_pos b) (Ev.bind v2 (Ev.congr (fun k => (if_pos rfl).trans (if_pos (by omega))) hr)))))
          have key : allP nodes outs room none = if (allF nodes (orderF nodes nodes.length (List.replicate nodes.length false)) (List.replicate nodes.length [])).2.1 = 0 then (orderF nodes nodes.length (List.replicate nodes.length false), (allF nodes (orderF nodes nodes.length (List.replicate nodes.length false)) (List.replicate nodes.length [])).1, 0, (nodes.length : Int)) else ([], [], (allF nodes (orderF nodes nodes.length (List.replicate nodes.length false)) (List.replicate nodes.length [])).2.1, (allF nodes (orderF nodes nodes.length (List.replicate nodes.length false)) (List.replicate nodes.length [])).2.2) := (if_neg (not_not_intro a)).trans (if_neg (not_not_intro b))
          rw [key]
          by_cases z : (allF nodes (orderF nodes nodes.length (List.replicate nodes.length false)) (List.replicate nodes.length [])).2.1 = 0
          · rw [if_pos z]; exact big _ (Ev.bind t1 (Ev.congr (fun k => if_pos z) (Ev.now _)))
          · rw [if_neg z]; exact big _ (Ev.bind t1 (Ev.congr (fun k => if_neg z) (Ev.now _)))
        · intro h
          exfalso
          unfold allP at h
          rw [if_neg (not_not_intro a), if_neg (not_not_intro b)] at h
          simp only at h
          by_cases z : (allF nodes (orderF nodes nodes.length (List.replicate nodes.length false)) (List.replicate nodes.length [])).2.1 = 0
          · rw [if_pos z] at h; cases h
          · rw [if_neg z] at h
            simp only at h
            omega
    · refine ⟨none, ?_, fun _ h => absurd h b, fun h => ?_⟩
      · unfold allP
        rw [if_neg (not_not_intro a), if_pos b]
        exact Ev.bind w1 (Ev.congr (fun k => if_pos rfl) (Ev.bind sh (Ev.congr (fun k => if_neg b) (Ev.now _))))
      · unfold allP at h
        rw [if_neg (not_not_intro a), if_pos b] at h
        simp only at h
        omega
  · rw [if_neg a] at w1
    refine ⟨none, ?_, fun h => absurd h a, fun h => ?_⟩
    · unfold allP
      rw [if_pos a]
      exact Ev.bind w1 (Ev.congr (fun k => if_neg a) (Ev.now _))
    · unfold allP at h
      rw [if_pos a] at h
      simp only at h
      omega
theorem code_is (a : Int) : runnellaw16_code.f a = some a := rfl
/-- Where ins have lower numbers, one comes to lower numbers. -/
theorem path_down (nodes : List S42) (hs : Sound nodes) (h : ∀ j : Nat, j < nodes.length → ∀ c ∈ insOf nodes (j : Int), c < (j : Int)) {a b : Int} (hp : Path nodes a b) : 0 ≤ a → a < (nodes.length : Int) → b < a ∧ 0 ≤ b ∧ b < (nodes.length : Int) := by
  induction hp with
  | @one b h1 =>
    intro a0 a1
    have := h a.toNat (by omega) b (by rw [Int.toNat_of_nonneg a0]; exact h1)
    have i := hs.inr a a0 a1 b h1
    exact ⟨by omega, i.1, i.2⟩
  | @more b c _ h2 ih =>
    intro a0 a1
    obtain ⟨b1, b0, bn⟩ := ih a0 a1
    have := h b.toNat (by omega) c (by rw [Int.toNat_of_nonneg b0]; exact h2)
    have i := hs.inr b b0 bn c h2
    exact ⟨by omega, i.1, i.2⟩
theorem ord_ins (nodes : List S42) (outs : List Int) (room : Int) (l : List Int) (done : List Bool) (i : Nat) (hi : i < l.length) (hl : l.length ≤ 100) (h0 : 0 ≤ rd l (i : Int)) (h1 : rd l (i : Int) < (nodes.length : Int)) (hd : done.length = nodes.length) (hlen : (insOf nodes (rd l (i : Int))).length ≤ 20)
    (hin : ∀ c ∈ insOf nodes (rd l (i : Int)), 0 ≤ c ∧ c < (nodes.length : Int) ∧ rdOf false done c = true) (d : Nat) : ∀ (p : Nat), p ≤ (insOf nodes (rd l (i : Int))).length → (insOf nodes (rd l (i : Int))).length - p = d →
    Ev (fun k => runnellaw16_PlanOrders.l2 k l (done.set (rd l (i : Int)).toNat true) ((i + 1 : Nat) : Int) nodes outs room) true → Ev (fun k => runnellaw16_PlanOrders.l3 k l done (i : Int) (p : Int) nodes outs room) true := by
  induction d with
  | zero =>
    intro p hp hdd hb
    refine Ev.step (fun k => ?_) hb
    rw [runnellaw16_PlanOrders.l3, if_pos (by omega), if_pos (by omega), if_pos h0, if_pos h1]
    show (if (p : Int) < ((insOf nodes (rd l (i : Int))).length : Int) then _ else _) = _
    rw [if_neg (by omega), if_pos (by omega), wnext i (by omega)]
  | succ d ih =>
    intro p hp hdd hb
    have hlt : p < (insOf nodes (rd l (i : Int))).length := by omega
    have hc := hin _ (List.getElem_mem hlt)
    have hr := rd_get hlt
    refine Ev.step (fun k => ?_) (ih (p + 1) (by omega) (by omega) hb)
    rw [runnellaw16_PlanOrders.l3, if_pos (by omega), if_pos (by omega), if_pos h0, if_pos h1]
    show (if (p : Int) < ((insOf nodes (rd l (i : Int))).length : Int) then (if 0 ≤ (p : Int) then (if 0 ≤ rd (insOf nodes (rd l (i : Int))) (p : Int) then (if rd (insOf nodes (rd l (i : Int))) (p : Int) < (done.length : Int) then (if rdOf false done (rd (insOf nodes (rd l (i : Int))) (p : Int)) = true then _ else _) else _) else _) else _) else _) = _
    rw [if_pos (by omega), if_pos (by omega), hr, if_pos hc.1, if_pos (by omega), if_pos hc.2.2, wnext p (by omega)]
theorem ord_loop (nodes : List S42) (hs : Sound nodes) (outs : List Int) (room : Int) (l : List Int) (hl : l.length = nodes.length) (d : Nat) : ∀ (i : Nat) (done : List Bool), i ≤ l.length → l.length - i = d → done.length = nodes.length → Orderly nodes done (l.drop i) →
    Ev (fun k => runnellaw16_PlanOrders.l2 k l done (i : Int) nodes outs room) true := by
  have hn := hs.few
  induction d with
  | zero =>
    intro i done hi hd hdl ho
    exact Ev.step (fun k => by rw [runnellaw16_PlanOrders.l2, if_neg (by omega), if_pos (by omega)]) (Ev.bind live_is (Ev.now _))
  | succ d ih =>
    intro i done hi hd hdl ho
    have hlt : i < l.length := by omega
    rw [List.drop_eq_getElem_cons hlt] at ho
    have hr := rd_get hlt
    rw [← hr] at ho
    obtain ⟨h0, h1, h2, h3, h4⟩ := ho
    have b := ih (i + 1) (done.set (rd l (i : Int)).toNat true) (by omega) (by omega) (by rw [List.length_set]; exact hdl) h4
    have c := ord_ins nodes outs room l done i hlt (by omega) h0 h1 hdl (hs.len _ h0 h1) (fun c hc => by have := hs.inr _ h0 h1 c hc; exact ⟨this.1, this.2, h3 c hc⟩) _ 0 (by omega) rfl b
    refine Ev.step (fun k => ?_) (Ev.step (g := fun k => runnellaw16_PlanOrders.j4 k l done (i : Int) false nodes outs room) (f := fun k => runnellaw16_PlanOrders.l3 k l done (i : Int) ((0 : Nat) : Int) nodes outs room) (fun k => by rw [runnellaw16_PlanOrders.j4, if_neg (by decide)]; rfl) c)
    rw [runnellaw16_PlanOrders.l2, if_pos (by omega), if_pos (by omega), if_neg (by omega), if_neg (by omega), if_pos h0, if_pos (by omega), h2]
theorem rise_row (nodes : List S42) (outs : List Int) (room e : Int) (hn : nodes.length ≤ 70) (i : Nat) (hi : i < nodes.length) (hlen : (insOf nodes (i : Int)).length ≤ 20) (r : Bool) (d : Nat) : ∀ (p : Nat) (fl : Bool), p ≤ (insOf nodes (i : Int)).length → (insOf nodes (i : Int)).length - p = d →
    (∀ f2 : Bool, (f2 = true → fl = true ∧ ∀ c ∈ (insOf nodes (i : Int)).drop p, c < (i : Int)) → Ev (fun k => runnellaw16_PlanOrders.l0 k e f2 ((i + 1 : Nat) : Int) nodes outs room) r) → Ev (fun k => runnellaw16_PlanOrders.l1 k e fl (i : Int) (p : Int) nodes outs room) r := by
  induction d with
  | zero =>
    intro p fl hp hd hb
    refine Ev.step (fun k => ?_) (hb fl (fun h => ⟨h, fun c hc => by rw [List.drop_eq_nil_of_le (by omega)] at hc; cases hc⟩))
    rw [runnellaw16_PlanOrders.l1, if_pos (by omega), if_pos (by omega)]
    show (if (p : Int) < ((insOf nodes (i : Int)).length : Int) then _ else _) = _
    rw [if_neg (by omega), wnext i (by omega)]
  | succ d ih =>
    intro p fl hp hd hb
    have hlt : p < (insOf nodes (i : Int)).length := by omega
    have hr := rd_get hlt
    rw [List.drop_eq_getElem_cons hlt] at hb
    cases fl with
    | true =>
      refine Ev.step (fun k => ?_) (ih (p + 1) (decide ((insOf nodes (i : Int))[p] < (i : Int))) (by omega) (by omega) (fun f2 h => hb f2 (fun hf => ⟨rfl, fun c hc => ?_⟩)))
      · rw [runnellaw16_PlanOrders.l1, if_pos (by omega), if_pos (by omega)]
        show (if (p : Int) < ((insOf nodes (i : Int)).length : Int) then (if true = true then (if 0 ≤ (p : Int) then runnellaw16_PlanOrders.l1 k e (decide (rd (insOf nodes (i : Int)) (p : Int) < (i : Int))) _ _ _ _ _ else _) else _) else _) = _
        rw [if_pos (by omega), if_pos rfl, if_pos (by omega), hr, wnext p (by omega)]
      · obtain ⟨h5, h6⟩ := h hf
        rcases List.mem_cons.1 hc with rfl | hc
        · simpa using h5
        · exact h6 c hc
    | false =>
      refine Ev.step (fun k => ?_) (ih (p + 1) false (by omega) (by omega) (fun f2 h => hb f2 (fun hf => absurd (h hf).1 (by decide))))
      rw [runnellaw16_PlanOrders.l1, if_pos (by omega), if_pos (by omega)]
      show (if (p : Int) < ((insOf nodes (i : Int)).length : Int) then (if false = true then _ else _) else _) = _
      rw [if_pos (by omega), if_neg (by decide), wnext p (by omega)]
theorem rise_loop (nodes : List S42) (outs : List Int) (room e : Int) (hn : nodes.length ≤ 70) (hlen : ∀ j : Nat, j < nodes.length → (insOf nodes (j : Int)).length ≤ 20) (he : e = 160 → ¬ ∀ j : Nat, j < nodes.length → ∀ c ∈ insOf nodes (j : Int), c < (j : Int)) (hb : Ev (fun k => runnellaw16_PlanOrders.j2 k false nodes outs room) true) (d : Nat) : ∀ (i : Nat) (fl : Bool), i + d = nodes.length → (fl = true → ∀ j : Nat, j < i → ∀ c ∈ insOf nodes (j : Int), c < (j : Int)) →
    Ev (fun k => runnellaw16_PlanOrders.l0 k e fl (i : Int) nodes outs room) true := by
  induction d with
  | zero =>
    intro i fl hi hf
    cases fl with
    | true =>
      have ne : e ≠ 160 := fun h => he h (fun j hj => hf rfl j (by omega))
      exact Ev.step (fun k => by rw [runnellaw16_PlanOrders.l0, if_neg (by omega), if_pos rfl, code_is, Option.bind_some, show (e == 160) = false from beq_eq_false_iff_ne.mpr ne]) hb
    | false => exact Ev.step (fun k => by rw [runnellaw16_PlanOrders.l0, if_neg (by omega), if_neg (by decide)]) hb
  | succ d ih =>
    intro i fl hi hf
    refine Ev.step (fun k => by rw [runnellaw16_PlanOrders.l0, if_pos (by omega)]; rfl) (rise_row nodes outs room e hn i (by omega) (hlen i (by omega)) true _ 0 fl (by omega) rfl (fun f2 h => ih (i + 1) f2 (by omega) (fun hf2 j hj c hc => ?_)))
    obtain ⟨h1, h2⟩ := h hf2
    rcases Nat.lt_or_ge j i with h3 | h3
    · exact hf h1 j h3 c hc
    · have : j = i := by omega
      subst this
      rw [List.drop_zero] at h2
      exact h2 c hc
theorem PlanOrders : runnellaw16_PlanOrders.Pure := by
  intro nodes outs room hw
  refine Ev.rounds (g := fun k => runnellaw16_PlanOrders.f k nodes outs room) ?_
  unfold runnellaw16_PlanOrders.f
  rcases plong_is nodes outs room with h | ⟨hn, ho, hok, h⟩
  · exact Ev.bind h (Ev.congr (fun k => if_pos rfl) (Ev.bind live_is (Ev.now _)))
  refine Ev.bind h (Ev.congr (fun k => if_neg (by decide)) ?_)
  obtain ⟨loop, ha, hb, hc⟩ := all_is nodes outs room hn ho
  have hlen : ∀ j : Nat, j < nodes.length → (insOf nodes (j : Int)).length ≤ 20 := fun j hj => (hok j hj).ins
  have ck : Ev (fun k => plan_Check.f k nodes outs room) ((allP nodes outs room loop).2.2.1, (allP nodes outs room loop).2.2.2) := Ev.bind ha (Ev.now _)
  have od : Ev (fun k => plan_Order.f k nodes outs room) ((allP nodes outs room loop).1, (allP nodes outs room loop).2.2.1) := Ev.bind ha (Ev.now _)
  refine Ev.bind ck (rise_loop nodes outs room _ hn hlen ?_ ?_ nodes.length 0 true (by omega) (fun _ j hj => by omega))
  · intro e hr
    obtain ⟨a, ha1, ha2⟩ := hc e
    -- a loop is found only of a plan of a sound shape
    have hs : Sound nodes := by
      by_cases w : wholeP nodes outs room = 0
      · by_cases s : (shapeF nodes 0 nodes.length).1 = 0
        · exact (hb w s).2.1
        · exfalso
          have key : allP nodes outs room loop = ([], [], (shapeF nodes 0 nodes.length).1, (shapeF nodes 0 nodes.length).2) := (if_neg (not_not_intro w)).trans (if_pos s)
          rw [key] at e
          have := (shapeF_ok nodes nodes.length 0).1
          simp only at e
          omega
      · exfalso
        have key : allP nodes outs room loop = ([], [], wholeP nodes outs room, (nodes.length : Int)) := if_pos w
        rw [key] at e
        have := (whole_is nodes outs room hn ho).2
        simp only at e
        omega
    have := path_down nodes hs hr ha2 (by omega) (by omega)
    omega
  · have st : ∀ r, Ev (fun k => if (allP nodes outs room loop).2.2.1 = 0 then (if 0 ≤ (nodes.length : Int) then (if ((nodes.length : Int) : Int).toNat ≤ 281474976710656 then (runnellaw16_PlanOrders.l2 k (allP nodes outs room loop).1 (List.replicate ((nodes.length : Int) : Int).toNat false) 0 nodes outs room) else (none)) else (none)) else (if ((allP nodes outs room loop).1.length : Int) = 0 then ((runnellaw16_live.f k).bind fun t211 => (some t211)) else (some false))) r → Ev (fun k => runnellaw16_PlanOrders.j2 k false nodes outs room) r := fun r hr =>
      Ev.step (fun k => by rw [runnellaw16_PlanOrders.j2, if_neg (by decide)]) (Ev.bind od hr)
    refine st _ ?_
    have bad : ∀ {x : List Int × List (List Int) × Int × Int}, allP nodes outs room loop = x → x.2.2.1 ≠ 0 → x.1 = [] → Ev (fun k => if (allP nodes outs room loop).2.2.1 = 0 then (if 0 ≤ (nodes.length : Int) then (if ((nodes.length : Int) : Int).toNat ≤ 281474976710656 then (runnellaw16_PlanOrders.l2 k (allP nodes outs room loop).1 (List.replicate ((nodes.length : Int) : Int).toNat false) 0 nodes outs room) else (none)) else (none)) else (if ((allP nodes outs room loop).1.length : Int) = 0 then ((runnellaw16_live.f k).bind fun t211 => (some t211)) else (some false))) true := fun {x} e h1 h2 => by
      rw [e, h2]
      exact Ev.congr (fun k => (if_neg h1).trans (if_pos rfl)) (Ev.bind live_is (Ev.now _))
    by_cases w : wholeP nodes outs room = 0
    · by_cases s : (shapeF nodes 0 nodes.length).1 = 0
      · obtain ⟨_, hs, hord⟩ := hb w s
        cases loop with
        | some a => exact bad (x := ([], [], 160, (a : Int))) ((if_neg (not_not_intro w)).trans (if_neg (not_not_intro s))) (by simp) rfl
        | none =>
          have key : allP nodes outs room none = if (allF nodes (orderF nodes nodes.length (List.replicate nodes.length false)) (List.replicate nodes.length [])).2.1 = 0 then (orderF nodes nodes.length (List.replicate nodes.length false), (allF nodes (orderF nodes nodes.length (List.replicate nodes.length false)) (List.replicate nodes.length [])).1, 0, (nodes.length : Int)) else ([], [], (allF nodes (orderF nodes nodes.length (List.replicate nodes.length false)) (List.replicate nodes.length [])).2.1, (allF nodes (orderF nodes nodes.length (List.replicate nodes.length false)) (List.replicate nodes.length [])).2.2) := (if_neg (not_not_intro w)).trans (if_neg (not_not_intro s))
          by_cases z : (allF nodes (orderF nodes nodes.length (List.replicate nodes.length false)) (List.replicate nodes.length [])).2.1 = 0
          · rw [if_pos z] at key
            rw [key]
            have hl := orderF_len nodes nodes.length (List.replicate nodes.length false)
            have := ord_loop nodes hs outs room _ hl _ 0 (List.replicate nodes.length false) (by omega) rfl (by simp) (by rw [List.drop_zero]; exact hord rfl)
            exact Ev.congr (fun k => (if_pos rfl).trans ((if_pos (by omega)).trans (if_pos (by omega)))) this
          · rw [if_neg z] at key
            exact bad key z rfl
      · exact bad ((if_neg (not_not_intro w)).trans (if_pos s)) s rfl
    · exact bad (if_pos w) w rfl

end Go.Proofs.Ytdkkollonlmelaa.Pure
