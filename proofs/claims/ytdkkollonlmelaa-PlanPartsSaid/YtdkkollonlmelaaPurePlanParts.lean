/- For every plan and node, the inputs, the users and each node's group are the reference's, and the page's examples hold. No condition beyond the statement's own. -/
import Derived.Test.YtdkkollonlmelaaQPlanPartsx12
namespace Go.Proofs.Ytdkkollonlmelaa.Pure
open Go.RowKit Go.Proofs.Ytdkkollonlmelaa.QPlanParts Go.Proofs.YtdkkollonlmelaaW.PrintWords Go.Proofs.YtdkkollonlmelaaW.PrintLast

theorem w64 {x : Int} (h : -9223372036854775808 ≤ x ∧ x ≤ 9223372036854775807) : wrap64 x = x := by unfold wrap64; omega
/-- Never as a hypothesis: omega runs away over two of them. -/
theorem wnext (i : Nat) (h : i ≤ 1000000) : wrap64 ((i : Int) + 1) = ((i + 1 : Nat) : Int) := by rw [w64 (by omega)]; rfl
theorem xlong_loop (l : List S128) (hl : (l.length : Int) ≤ 1000) (d : Nat) : ∀ (i : Nat), i ≤ l.length → l.length - i = d → ∃ b, Ev (fun k => runnelref08_Long.l0 k l (i : Int)) b := by
  induction d with
  | zero =>
    intro i hi hd
    exact ⟨false, Ev.step (fun k => by rw [runnelref08_Long.l0, if_neg (by omega)]) (Ev.now _)⟩
  | succ d ih =>
    intro i hi hd
    by_cases h : ((rd_T128 l (i : Int)).f2.size : Int) > 5000
    · exact ⟨true, Ev.step (fun k => by rw [runnelref08_Long.l0, if_pos (by omega), if_pos (by omega), if_pos h]) (Ev.now _)⟩
    · obtain ⟨b, hb⟩ := ih (i + 1) (by omega) (by omega)
      exact ⟨b, Ev.step (fun k => by rw [runnelref08_Long.l0, if_pos (by omega), if_pos (by omega), if_neg h, wnext i (by omega)]) hb⟩
theorem xlong_is (l : List S128) : (Ev (fun k => runnelref08_Long.f k l) true) ∨ ((l.length : Int) ≤ 80 ∧ Ev (fun k => runnelref08_Long.f k l) false) := by
  unfold runnelref08_Long.f
  by_cases h : (l.length : Int) > 80
  · exact .inl (Ev.congr (fun k => if_pos h) (Ev.now _))
  · obtain ⟨b, hb⟩ := xlong_loop l (by omega) l.length 0 (by omega) (by omega)
    cases b with
    | true => exact .inl (Ev.congr (fun k => if_neg h) hb)
    | false => exact .inr ⟨by omega, Ev.congr (fun k => if_neg h) hb⟩
/-- What Long lets in, of one node. -/
structure NodeOk (x : S42) : Prop where
  ins : x.f1.length ≤ 20
  kinds : x.f2.length ≤ 30
  exprs : x.f3.length ≤ 30
  cols : x.f4.length ≤ 30
  each : ∀ q : Nat, q < x.f3.length → ((rd_L4 x.f3 (q : Int)).length : Int) ≤ 80
theorem plong_exprs (nodes : List S42) (outs : List Int) (room : Int) (i : Nat) (hi : i ≤ 100) (f0 : Int) (f1 f2 : List Int) (f3 : List (List S128)) (f4 : List Int) (f5 f6 f7 f8 : Int) (h3 : f3.length ≤ 30) (d : Nat) : ∀ (p : Nat), p ≤ f3.length → f3.length - p = d →
    Ev (fun k => runnelref16_Long.l1 k (i : Int) (p : Int) nodes outs room f0 f1 f2 f3 f4 f5 f6 f7 f8) true ∨ ((∀ q : Nat, p ≤ q → q < f3.length → ((rd_L4 f3 (q : Int)).length : Int) ≤ 80) ∧ ∀ b, Ev (fun k => runnelref16_Long.l0 k ((i + 1 : Nat) : Int) nodes outs room) b → Ev (fun k => runnelref16_Long.l1 k (i : Int) (p : Int) nodes outs room f0 f1 f2 f3 f4 f5 f6 f7 f8) b) := by
  induction d with
  | zero =>
    intro p hp hd
    exact .inr ⟨fun q h1 h2 => by omega, fun b hb => Ev.step (fun k => by rw [runnelref16_Long.l1, if_neg (by omega), wnext i (by omega)]) hb⟩
  | succ d ih =>
    intro p hp hd
    have st : ∀ k, runnelref16_Long.l1 (k + 1) (i : Int) (p : Int) nodes outs room f0 f1 f2 f3 f4 f5 f6 f7 f8 = (runnelref08_Long.f k (rd_L4 f3 (p : Int))).bind fun t => if t = true then some true else runnelref16_Long.l1 k (i : Int) ((p + 1 : Nat) : Int) nodes outs room f0 f1 f2 f3 f4 f5 f6 f7 f8 := fun k => by rw [runnelref16_Long.l1, if_pos (by omega), if_pos (by omega), wnext p (by omega)]
    rcases xlong_is (rd_L4 f3 (p : Int)) with h | ⟨hle, h⟩
    · exact .inl (Ev.step st (Ev.bind h (Ev.congr (fun k => if_pos rfl) (Ev.now _))))
    · rcases ih (p + 1) (by omega) (by omega) with h2 | ⟨h2, h2'⟩
      · exact .inl (Ev.step st (Ev.bind h (Ev.congr (fun k => if_neg (by decide)) h2)))
      · refine .inr ⟨fun q h3 h4 => ?_, fun b hb => Ev.step st (Ev.bind h (Ev.congr (fun k => if_neg (by decide)) (h2' b hb)))⟩
        rcases Nat.eq_or_lt_of_le h3 with rfl | h5
        · exact hle
        · exact h2 q h5 h4
theorem plong_loop (nodes : List S42) (outs : List Int) (room : Int) (hn : nodes.length ≤ 70) (d : Nat) : ∀ (i : Nat), i ≤ nodes.length → nodes.length - i = d →
    Ev (fun k => runnelref16_Long.l0 k (i : Int) nodes outs room) true ∨ ((∀ j : Nat, i ≤ j → j < nodes.length → NodeOk (rd_T42 nodes (j : Int))) ∧ Ev (fun k => runnelref16_Long.l0 k (i : Int) nodes outs room) false) := by
  induction d with
  | zero =>
    intro i hi hd
    exact .inr ⟨fun j h1 h2 => by omega, Ev.step (fun k => by rw [runnelref16_Long.l0, if_neg (by omega)]) (Ev.now _)⟩
  | succ d ih =>
    intro i hi hd
    have bad : ∀ k, runnelref16_Long.j2 (k + 1) (i : Int) true nodes outs room (rd_T42 nodes (i : Int)).f0 (rd_T42 nodes (i : Int)).f1 (rd_T42 nodes (i : Int)).f2 (rd_T42 nodes (i : Int)).f3 (rd_T42 nodes (i : Int)).f4 (rd_T42 nodes (i : Int)).f5 (rd_T42 nodes (i : Int)).f6 (rd_T42 nodes (i : Int)).f7 (rd_T42 nodes (i : Int)).f8 = some true := fun k => by rw [runnelref16_Long.j2, if_pos rfl]
    by_cases h1 : ((rd_T42 nodes (i : Int)).f1.length : Int) > 20
    · exact .inl (Ev.step (fun k => by rw [runnelref16_Long.l0, if_pos (by omega), if_pos (by omega), if_pos h1]) (Ev.step bad (Ev.now _)))
    by_cases h2 : ((rd_T42 nodes (i : Int)).f2.length : Int) > 30
    · exact .inl (Ev.step (fun k => by rw [runnelref16_Long.l0, if_pos (by omega), if_pos (by omega), if_neg h1, if_pos h2]) (Ev.step bad (Ev.now _)))
    by_cases h3 : ((rd_T42 nodes (i : Int)).f3.length : Int) > 30
    · exact .inl (Ev.step (fun k => by rw [runnelref16_Long.l0, if_pos (by omega), if_pos (by omega), if_neg h1, if_neg h2, if_pos h3]) (Ev.step bad (Ev.now _)))
    by_cases h4 : ((rd_T42 nodes (i : Int)).f4.length : Int) > 30
    · exact .inl (Ev.step (fun k => by rw [runnelref16_Long.l0, if_pos (by omega), if_pos (by omega), if_neg h1, if_neg h2, if_neg h3, decide_eq_true h4]) (Ev.step bad (Ev.now _)))
    have st : ∀ b, Ev (fun k => runnelref16_Long.l1 k (i : Int) ((0 : Nat) : Int) nodes outs room (rd_T42 nodes (i : Int)).f0 (rd_T42 nodes (i : Int)).f1 (rd_T42 nodes (i : Int)).f2 (rd_T42 nodes (i : Int)).f3 (rd_T42 nodes (i : Int)).f4 (rd_T42 nodes (i : Int)).f5 (rd_T42 nodes (i : Int)).f6 (rd_T42 nodes (i : Int)).f7 (rd_T42 nodes (i : Int)).f8) b → Ev (fun k => runnelref16_Long.l0 k (i : Int) nodes outs room) b := fun b hb =>
      Ev.step (fun k => by rw [runnelref16_Long.l0, if_pos (by omega), if_pos (by omega), if_neg h1, if_neg h2, if_neg h3, decide_eq_false h4]) (Ev.step (fun k => by rw [runnelref16_Long.j2, if_neg (by decide)]; rfl) hb)
    rcases plong_exprs nodes outs room i (by omega) (rd_T42 nodes (i : Int)).f0 (rd_T42 nodes (i : Int)).f1 (rd_T42 nodes (i : Int)).f2 (rd_T42 nodes (i : Int)).f3 (rd_T42 nodes (i : Int)).f4 (rd_T42 nodes (i : Int)).f5 (rd_T42 nodes (i : Int)).f6 (rd_T42 nodes (i : Int)).f7 (rd_T42 nodes (i : Int)).f8 (by omega) _ 0 (by omega) rfl with h5 | ⟨h5, h5'⟩
    · exact .inl (st _ h5)
    · rcases ih (i + 1) (by omega) (by omega) with h6 | ⟨h6, h6'⟩
      · exact .inl (st _ (h5' _ h6))
      · refine .inr ⟨fun j h7 h8 => ?_, st _ (h5' _ h6')⟩
        rcases Nat.eq_or_lt_of_le h7 with rfl | h9
        · exact ⟨by omega, by omega, by omega, by omega, fun q hq => h5 q (by omega) hq⟩
        · exact h6 j h9 h8
theorem plong_is (nodes : List S42) (outs : List Int) (room : Int) : Ev (fun k => runnelref16_Long.f k nodes outs room) true ∨ (nodes.length ≤ 70 ∧ outs.length ≤ 20 ∧ (∀ j : Nat, j < nodes.length → NodeOk (rd_T42 nodes (j : Int))) ∧ Ev (fun k => runnelref16_Long.f k nodes outs room) false) := by
  unfold runnelref16_Long.f
  by_cases h1 : (nodes.length : Int) > 70
  · exact .inl (Ev.congr (fun k => if_pos h1) (Ev.step (fun k => by rw [runnelref16_Long.j0, if_pos rfl]) (Ev.now _)))
  by_cases h2 : (outs.length : Int) > 20
  · exact .inl (Ev.congr (fun k => by rw [if_neg h1, decide_eq_true h2]) (Ev.step (fun k => by rw [runnelref16_Long.j0, if_pos rfl]) (Ev.now _)))
  have st : ∀ b, Ev (fun k => runnelref16_Long.l0 k ((0 : Nat) : Int) nodes outs room) b → Ev (fun k => if (nodes.length : Int) > 70 then runnelref16_Long.j0 k true nodes outs room else runnelref16_Long.j0 k (decide ((outs.length : Int) > 20)) nodes outs room) b := fun b hb =>
    Ev.congr (fun k => by rw [if_neg h1, decide_eq_false h2]) (Ev.step (fun k => by rw [runnelref16_Long.j0, if_neg (by decide)]; rfl) hb)
  rcases plong_loop nodes outs room (by omega) _ 0 (by omega) rfl with h | ⟨h, h'⟩
  · exact .inl (st _ h)
  · exact .inr ⟨by omega, by omega, fun j hj => h j (by omega) hj, st _ h'⟩
theorem live_is : Ev (fun k => runnellaw16_live.f k) true := by
  have h : runnellaw16_live.f 60 = some true := by decide +kernel
  exact Ev.of (fun k => runnellaw16_live.mono k) h
theorem same_loop (l : List Int) (hl : l.length ≤ 10000) (d : Nat) : ∀ (i : Nat), i ≤ l.length → l.length - i = d → Ev (fun k => runnelref16_same.l0 k l l (i : Int)) true := by
  induction d with
  | zero =>
    intro i hi hd
    exact Ev.step (fun k => by rw [runnelref16_same.l0, if_neg (by omega)]) (Ev.now _)
  | succ d ih =>
    intro i hi hd
    exact Ev.step (fun k => by rw [runnelref16_same.l0, if_pos (by omega), if_pos (by omega), if_pos (by omega), if_pos rfl, wnext i (by omega)]) (ih (i + 1) (by omega) (by omega))
theorem same_is (l : List Int) (hl : l.length ≤ 10000) : Ev (fun k => runnelref16_Same.f k l l) true := by
  unfold runnelref16_Same.f runnelref16_same.f
  exact Ev.bind (Ev.congr (fun k => if_pos rfl) (same_loop l hl l.length 0 (by omega) (by omega))) (Ev.now _)
def inpF (nodes : List S42) : Nat → Nat → List Int
  | _, 0 => []
  | i, m + 1 => (if (rd_T42 nodes (i : Int)).f0 = 0 then [(i : Int)] else []) ++ inpF nodes (i + 1) m
def useR (x : Int) (i : Nat) (l : List Int) : List Int := (l.filter (fun k => k == x)).map (fun _ => (i : Int))
def useF (nodes : List S42) (x : Int) : Nat → Nat → List Int
  | _, 0 => []
  | i, m + 1 => useR x i (rd_T42 nodes (i : Int)).f1 ++ useF nodes x (i + 1) m
theorem drop_rd (l : List Int) (p : Nat) (hp : p < l.length) : l.drop p = rd l (p : Int) :: l.drop (p + 1) := by
  rw [List.drop_eq_getElem_cons hp]
  congr 1
  unfold rd
  rw [Int.toNat_natCast, List.getD_eq_getElem?_getD, List.getElem?_eq_getElem hp]; rfl
theorem useR_pos {x : Int} {i : Nat} {l : List Int} {p : Nat} (hp : p < l.length) (h : rd l (p : Int) = x) : useR x i (l.drop p) = (i : Int) :: useR x i (l.drop (p + 1)) := by
  rw [drop_rd l p hp, h]; simp [useR]
theorem useR_neg {x : Int} {i : Nat} {l : List Int} {p : Nat} (hp : p < l.length) (h : ¬ rd l (p : Int) = x) : useR x i (l.drop p) = useR x i (l.drop (p + 1)) := by
  rw [drop_rd l p hp]; simp [useR, h]
theorem useR_end {x : Int} {i : Nat} {l : List Int} {p : Nat} (hp : l.length ≤ p) : useR x i (l.drop p) = [] := by
  rw [List.drop_eq_nil_of_le hp]; rfl
theorem useR_len (x : Int) (i : Nat) (l : List Int) : (useR x i l).length ≤ l.length := by
  unfold useR; rw [List.length_map]; exact List.length_filter_le _ _
theorem inputs_loop (nodes : List S42) (hn : nodes.length ≤ 70) (m : Nat) : ∀ (i : Nat) (acc : List Int), i + m = nodes.length → acc.length ≤ i → Ev (fun k => plan_Inputs.l0 k acc nodes (nodes.length : Int) (i : Int)) (acc ++ inpF nodes i m) := by
  induction m with
  | zero =>
    intro i acc hi ha
    exact Ev.step (fun k => by rw [plan_Inputs.l0, if_neg (by omega)]) (by rw [inpF, List.append_nil]; exact Ev.now _)
  | succ m ih =>
    intro i acc hi ha
    by_cases h : (rd_T42 nodes (i : Int)).f0 = 0
    · rw [inpF, if_pos h, ← List.append_assoc]
      exact Ev.step (fun k => by rw [plan_Inputs.l0, if_pos (by omega), if_pos (by omega), if_pos (by omega), if_pos h, if_pos (by omega), wnext i (by omega)]) (ih (i + 1) _ (by omega) (by rw [List.length_append]; simp; omega))
    · rw [inpF, if_neg h, List.nil_append]
      exact Ev.step (fun k => by rw [plan_Inputs.l0, if_pos (by omega), if_pos (by omega), if_pos (by omega), if_neg h, wnext i (by omega)]) (ih (i + 1) _ (by omega) (by omega))
theorem users_row (nodes : List S42) (hn : nodes.length ≤ 70) (x : Int) (i : Nat) (hi : i < nodes.length) (l : List Int) (hl : l.length ≤ 20) (r : List Int) (d : Nat) : ∀ (p : Nat) (acc : List Int), p ≤ l.length → l.length - p = d → acc.length ≤ 2000 + p →
    Ev (fun k => plan_Users.l0 k x (acc ++ useR x i (l.drop p)) nodes (nodes.length : Int) ((i + 1 : Nat) : Int)) r → Ev (fun k => plan_Users.l1 k x acc (i : Int) nodes (nodes.length : Int) (i : Int) l (l.length : Int) (p : Int)) r := by
  induction d with
  | zero =>
    intro p acc hp hd ha h
    rw [useR_end (by omega), List.append_nil] at h
    exact Ev.step (fun k => by rw [plan_Users.l1, if_neg (by omega), wnext i (by omega)]) h
  | succ d ih =>
    intro p acc hp hd ha h
    by_cases e : rd l (p : Int) = x
    · rw [useR_pos (by omega) e] at h
      refine Ev.step (fun k => by rw [plan_Users.l1, if_pos (by omega), if_pos (by omega), if_pos (by omega), if_pos e, if_pos (by omega), wnext p (by omega)]) (ih (p + 1) _ (by omega) (by omega) (by rw [List.length_append]; simp; omega) ?_)
      rw [List.append_assoc]; exact h
    · rw [useR_neg (by omega) e] at h
      exact Ev.step (fun k => by rw [plan_Users.l1, if_pos (by omega), if_pos (by omega), if_pos (by omega), if_neg e, wnext p (by omega)]) (ih (p + 1) _ (by omega) (by omega) (by omega) h)
theorem users_loop (nodes : List S42) (hn : nodes.length ≤ 70) (hok : ∀ j : Nat, j < nodes.length → NodeOk (rd_T42 nodes (j : Int))) (x : Int) (m : Nat) : ∀ (i : Nat) (acc : List Int), i + m = nodes.length → acc.length ≤ 20 * i → Ev (fun k => plan_Users.l0 k x acc nodes (nodes.length : Int) (i : Int)) (acc ++ useF nodes x i m) := by
  induction m with
  | zero =>
    intro i acc hi ha
    exact Ev.step (fun k => by rw [plan_Users.l0, if_neg (by omega)]) (by rw [useF, List.append_nil]; exact Ev.now _)
  | succ m ih =>
    intro i acc hi ha
    have hlen := (hok i (by omega)).ins
    refine Ev.step (fun k => by rw [plan_Users.l0, if_pos (by omega), if_pos (by omega), if_pos (by omega)]; rfl) (users_row nodes hn x i (by omega) (rd_T42 nodes (i : Int)).f1 hlen _ _ 0 acc (by omega) rfl (by omega) ?_)
    rw [useF, ← List.append_assoc, List.drop_zero]
    refine ih (i + 1) _ (by omega) ?_
    have := useR_len x i (rd_T42 nodes (i : Int)).f1
    rw [List.length_append]; omega
theorem group_same (x : Int) (f1 f2 : List Int) (f3 : List (List S128)) (f4 : List Int) (f5 f6 f7 f8 : Int) : ∃ g b, plan_Group.f x f1 f2 f3 f4 f5 f6 f7 f8 = some (g, b) ∧ runnelref16_Group.f x = some (g, b) := by
  unfold plan_Group.f runnelref16_Group.f runnelref16_in.f
  by_cases h : 9 ≤ x ∧ x ≤ 14
  · obtain ⟨h1, h2⟩ := h
    have : x = 9 ∨ x = 10 ∨ x = 11 ∨ x = 12 ∨ x = 13 ∨ x = 14 := by omega
    rcases this with rfl | rfl | rfl | rfl | rfl | rfl
    · exact ⟨0, true, by decide +kernel, by decide +kernel⟩
    · exact ⟨1, true, by decide +kernel, by decide +kernel⟩
    · exact ⟨2, true, by decide +kernel, by decide +kernel⟩
    · exact ⟨3, true, by decide +kernel, by decide +kernel⟩
    · exact ⟨4, true, by decide +kernel, by decide +kernel⟩
    · exact ⟨5, true, by decide +kernel, by decide +kernel⟩
  · refine ⟨0, false, ?_, ?_⟩
    · rw [if_neg (by omega), if_neg (by omega), if_neg (by omega), if_neg (by omega), if_neg (by omega), if_neg (by omega)]
    · by_cases h9 : 9 ≤ x
      · rw [if_pos h9, decide_eq_false (by omega)]; rfl
      · rw [if_neg h9]; rfl
theorem parts_row (nodes : List S42) (outs : List Int) (room : Int) (hn : nodes.length ≤ 70) (x : Int) (i : Nat) (hi : i < nodes.length) (x5 : List Int) (hl : (rd_T42 nodes (i : Int)).f1.length ≤ 20) (r : Bool) (d : Nat) : ∀ (p : Nat) (acc : List Int), p ≤ (rd_T42 nodes (i : Int)).f1.length → (rd_T42 nodes (i : Int)).f1.length - p = d → acc.length ≤ 2000 + p →
    Ev (fun k => runnellaw16_PlanParts.l0 k x x5 (acc ++ useR x i ((rd_T42 nodes (i : Int)).f1.drop p)) ((i + 1 : Nat) : Int) nodes outs room) r → Ev (fun k => runnellaw16_PlanParts.l1 k x x5 acc (i : Int) (p : Int) nodes outs room) r := by
  induction d with
  | zero =>
    intro p acc hp hd ha h
    rw [useR_end (by omega), List.append_nil] at h
    obtain ⟨g, b, e1, e2⟩ := group_same (rd_T42 nodes (i : Int)).f0 (rd_T42 nodes (i : Int)).f1 (rd_T42 nodes (i : Int)).f2 (rd_T42 nodes (i : Int)).f3 (rd_T42 nodes (i : Int)).f4 (rd_T42 nodes (i : Int)).f5 (rd_T42 nodes (i : Int)).f6 (rd_T42 nodes (i : Int)).f7 (rd_T42 nodes (i : Int)).f8
    exact Ev.step (fun k => by rw [runnellaw16_PlanParts.l1, if_pos (by omega), if_pos (by omega), if_neg (by omega), e1, Option.bind_some, e2, Option.bind_some, if_pos rfl, if_neg (by simp), wnext i (by omega)]) h
  | succ d ih =>
    intro p acc hp hd ha h
    by_cases e : rd (rd_T42 nodes (i : Int)).f1 (p : Int) = x
    · rw [useR_pos (by omega) e] at h
      refine Ev.step (fun k => by rw [runnellaw16_PlanParts.l1, if_pos (by omega), if_pos (by omega), if_pos (by omega), if_pos (by omega), if_pos e, if_pos (by omega), wnext p (by omega)]) (ih (p + 1) _ (by omega) (by omega) (by rw [List.length_append]; simp; omega) ?_)
      rw [List.append_assoc]; exact h
    · rw [useR_neg (by omega) e] at h
      exact Ev.step (fun k => by rw [runnellaw16_PlanParts.l1, if_pos (by omega), if_pos (by omega), if_pos (by omega), if_pos (by omega), if_neg e, wnext p (by omega)]) (ih (p + 1) _ (by omega) (by omega) (by omega) h)
theorem parts_loop (nodes : List S42) (outs : List Int) (room : Int) (hn : nodes.length ≤ 70) (hok : ∀ j : Nat, j < nodes.length → NodeOk (rd_T42 nodes (j : Int))) (x : Int) (m : Nat) : ∀ (i : Nat) (x5 x6 : List Int), i + m = nodes.length → x5.length ≤ i → x6.length ≤ 20 * i → x5 ++ inpF nodes i m = inpF nodes 0 nodes.length → x6 ++ useF nodes x i m = useF nodes x 0 nodes.length →
    Ev (fun k => runnellaw16_PlanParts.l0 k x x5 x6 (i : Int) nodes outs room) true := by
  induction m with
  | zero =>
    intro i x5 x6 hi h5 h6 e5 e6
    rw [inpF, List.append_nil] at e5
    rw [useF, List.append_nil] at e6
    have i1 : Ev (fun k => plan_Inputs.f k nodes outs room) x5 := by
      have := inputs_loop nodes hn nodes.length 0 [] (by omega) (Nat.le_refl _)
      rw [List.nil_append, ← e5] at this
      exact this
    have u1 : Ev (fun k => plan_Users.f k nodes outs room x) x6 := by
      have := users_loop nodes hn hok x nodes.length 0 [] (by omega) (Nat.le_refl _)
      rw [List.nil_append, ← e6] at this
      exact this
    refine Ev.step (fun k => by rw [runnellaw16_PlanParts.l0, if_neg (by omega)]) (Ev.bind i1 (Ev.bind (same_is x5 (by omega)) (Ev.congr (fun k => if_pos rfl) (Ev.bind u1 (Ev.bind (same_is x6 (by omega)) (Ev.congr (fun k => if_pos rfl) (Ev.bind live_is (Ev.now _))))))))
  | succ m ih =>
    intro i x5 x6 hi h5 h6 e5 e6
    have hlen := (hok i (by omega)).ins
    have row : ∀ y5 : List Int, y5.length ≤ i + 1 → y5 ++ inpF nodes (i + 1) m = inpF nodes 0 nodes.length → Ev (fun k => runnellaw16_PlanParts.j1 k x y5 x6 (i : Int) nodes outs room) true := fun y5 hy ey => by
      refine Ev.step (fun k => by rw [runnellaw16_PlanParts.j1]; rfl) (parts_row nodes outs room hn x i (by omega) y5 hlen true _ 0 x6 (by omega) rfl (by omega) ?_)
      rw [List.drop_zero]
      refine ih (i + 1) y5 _ (by omega) hy ?_ ey ?_
      · have := useR_len x i (rd_T42 nodes (i : Int)).f1
        rw [List.length_append]; omega
      · rw [useF] at e6
        rw [List.append_assoc]; exact e6
    rw [inpF] at e5
    by_cases h : (rd_T42 nodes (i : Int)).f0 = 0
    · rw [if_pos h] at e5
      refine Ev.step (fun k => by rw [runnellaw16_PlanParts.l0, if_pos (by omega), if_pos (by omega), if_pos h, if_pos (by omega)]) (row (x5 ++ [(i : Int)]) (by rw [List.length_append]; simp; omega) (by rw [List.append_assoc]; exact e5))
    · rw [if_neg h, List.nil_append] at e5
      exact Ev.step (fun k => by rw [runnellaw16_PlanParts.l0, if_pos (by omega), if_pos (by omega), if_neg h]) (row x5 (by omega) e5)
theorem PlanParts : runnellaw16_PlanParts.Pure := by
  intro nodes outs room x hw hx
  refine Ev.rounds (g := fun k => runnellaw16_PlanParts.f k nodes outs room x) ?_
  unfold runnellaw16_PlanParts.f
  rcases plong_is nodes outs room with h | ⟨hn, ho, hok, h⟩
  · exact Ev.bind h (Ev.congr (fun k => if_pos rfl) (Ev.bind live_is (Ev.now _)))
  · exact Ev.bind h (Ev.congr (fun k => if_neg (by decide)) (parts_loop nodes outs room hn hok x nodes.length 0 [] [] (by omega) (Nat.le_refl _) (Nat.le_refl _) rfl rfl))

end Go.Proofs.Ytdkkollonlmelaa.Pure
