import Derived.Test.YtfmhmlijnidflaaV8
set_option linter.unusedVariables false
set_option linter.unusedSimpArgs false
namespace Go.V
open Go
theorem closeds_get : ∀ {l : List PV} {i : Nat} {p : PV}, closeds l = true → l[i]? = some p → closed p = true
  | q :: l, 0, p, h, hp => by simp at hp; subst hp; simp [closeds] at h; exact h.1
  | q :: l, i + 1, p, h, hp => by simp [closeds] at h; simp at hp; exact closeds_get h.2 hp
theorem Im.flat {w : World} {N N' : Nat → Prop} {p : PV} {v : Value} (h : Im w N p v) (hf : flatP p = true) : Im w N' p v := by
  cases h with
  | val h => exact .val h
  | any => exact .any
  | sl => cases hf
  | agg => cases hf
  | tup => cases hf
  | fn => cases hf
theorem Im.closed {w : World} {Nn Nn' : Nat → Prop} {p : PV} {v : Value} (h : Im w Nn p v) (hc : V.closed p = true) : Im w Nn' p v := by
  induction h with
  | val h => exact .val h
  | any => exact .any
  | sl => simp [V.closed] at hc
  | agg hl _ h1 ih => rw [V.closed] at hc; exact .agg hl (fun i p v hp hv => ih i p v hp hv (closeds_get hc hp)) h1
  | tup hl _ ih => rw [V.closed] at hc; exact .tup hl (fun i p v hp hv => ih i p v hp hv (closeds_get hc hp))
  | fn hl _ ih => rw [V.closed] at hc; exact .fn hl (fun i p v hp hv => ih i p v hp hv (closeds_get hc hp))
theorem dd_spec : ∀ (l acc : List Nat), acc.Nodup → (dd acc l).Nodup ∧ ∀ b ∈ dd acc l, b ∈ acc ∨ b ∈ l
  | [], acc, h => ⟨h, fun b hb => .inl hb⟩
  | x :: l, acc, h => by
    rw [dd]
    split
    · obtain ⟨h1, h2⟩ := dd_spec l acc h
      exact ⟨h1, fun b hb => (h2 b hb).imp id (List.mem_cons_of_mem _)⟩
    · rename_i hc
      have hn : x ∉ acc := fun hm => hc (List.contains_iff_mem.2 hm)
      obtain ⟨h1, h2⟩ := dd_spec l (acc ++ [x]) (by
        rw [List.nodup_append]
        exact ⟨h, by simp, fun a ha b hb => by simp at hb; subst hb; exact fun e => hn (e ▸ ha)⟩)
      refine ⟨h1, fun b hb => ?_⟩
      rcases h2 b hb with h3 | h3
      · rcases List.mem_append.1 h3 with h3 | h3
        · exact .inl h3
        · simp at h3; subst h3; exact .inr List.mem_cons_self
      · exact .inr (List.mem_cons_of_mem _ h3)
theorem above_spec (n : Nat) : ∀ (l : List Nat), ∀ b ∈ above n l, n ≤ b
  | [], b, h => by simp [above] at h
  | x :: l, b, h => by
    rw [above] at h
    split at h
    · exact above_spec n l b h
    · rcases List.mem_cons.1 h with rfl | h
      · omega
      · exact above_spec n l b h
theorem reach_spec (n : Nat) (m : Mem) (ps : List PV) : (reach n m ps).Nodup ∧ ∀ b ∈ reach n m ps, n ≤ b := by
  unfold reach
  obtain ⟨h1, h2⟩ := dd_spec (above n (fore m n ++ idss ps)) [] (by simp)
  obtain ⟨h3, h4⟩ := dd_spec (above n (cellIds m (dd [] (above n (fore m n ++ idss ps))))) (dd [] (above n (fore m n ++ idss ps))) h1
  refine ⟨h3, fun b hb => ?_⟩
  rcases h4 b hb with h | h
  · rcases h2 b h with h | h
    · simp at h
    · exact above_spec _ _ b h
  · exact above_spec _ _ b h
theorem nodup_inj : ∀ {l : List Nat}, l.Nodup → ∀ {i j : Nat} (hi : i < l.length) (hj : j < l.length), l[i] = l[j] → i = j
  | x :: l, h, 0, 0, _, _, _ => rfl
  | x :: l, h, 0, j + 1, _, hj, e => by
    rw [List.nodup_cons] at h
    simp at e
    exact absurd (e ▸ List.getElem_mem (by simpa using hj)) h.1
  | x :: l, h, i + 1, 0, hi, _, e => by
    rw [List.nodup_cons] at h
    simp at e
    exact absurd (e ▸ List.getElem_mem (by simpa using hi)) h.1
  | x :: l, h, i + 1, j + 1, hi, hj, e => by
    rw [List.nodup_cons] at h
    simp at e
    rw [nodup_inj h.2 (by simpa using hi) (by simpa using hj) e]
theorem idxOf?_get : ∀ (l : List Nat) (b i : Nat), l.idxOf? b = some i → l[i]? = some b
  | [], b, i, h => by simp at h
  | x :: l, b, i, h => by
    rw [List.idxOf?_cons] at h
    split at h
    · rename_i e; cases h; simp at e; simp [e]
    · obtain ⟨j, hj, rfl⟩ := Option.map_eq_some_iff.1 h
      simpa using idxOf?_get l b j hj
section
variable {c : Cx} {P : Program} {M M' M2 : Nat → Prop} {w0 w w' : World} {S : Nat → Prop} {N : Nat} {tm : Tm} {m m' m2 : Mem} {ρ ρ' ρ2 : Nat → Value} {a : Act}
/-- The same thing, told over other places. -/
theorem Rep.ren {σ : Nat → Option Nat} {kc : Bool} {p : PV} {v : Value} (h : Rep M w m ρ p v) (hcl : V.closed p = true ∨ ∀ k, Mine M2 m2 ρ2 k → Mine M m ρ k) (hkc : kc = true → (∀ k, Own m2 ρ2 k → Own m ρ k) ∧ ∀ k, Mine M2 m2 ρ2 k → Mine M m ρ k)
    (hr : ∀ b d e es, σ b = some d → m[b]? = some (.row e es) → m2[d]? = some (.row e es) ∧ ρ2 d = ρ b) (hv : ∀ b d cs, σ b = some d → m[b]? = some (.var cs) → (∃ cs', m2[d]? = some (.var cs')) ∧ ρ2 d = ρ b) : Rep M2 w m2 ρ2 (V.ren σ kc p) v := by
  unfold V.ren
  induction h with
  | im h =>
    rw [h.tr_eq]
    rcases hcl with hcl | hcl
    · exact .im (h.closed hcl)
    · exact .im (h.sub hcl)
  | own h =>
    rw [V.tr]
    split
    · rename_i d hd
      obtain ⟨h1, h2⟩ := hr _ d _ _ hd h
      exact .own' h1 h2
    · exact .im .any
  | osl0 h1 h2 h3 =>
    rw [V.tr]
    split
    · rename_i d hd
      obtain ⟨h4, h5⟩ := hr _ d _ _ hd h1
      exact .osl0 h4 h2 (h5.trans h3)
    · exact .im .any
  | osl h1 h2 h3 h4 h5 h6 h7 h8 =>
    rw [V.tr]
    split
    · rename_i d hd
      obtain ⟨e1, e2⟩ := hr _ d _ _ hd h1
      exact .osl e1 h2 h3 h4 h5 h6 h7 ⟨h8.1, e2.trans h8.2.1, h8.2.2⟩
    · exact .im .any
  | adr h1 h2 =>
    rw [V.tr]
    split
    · rename_i d hd
      obtain ⟨⟨cs', e1⟩, e2⟩ := hv _ d _ hd h1
      exact .adr e1 (e2.trans h2)
    · exact .im .any
  | ead h1 h2 h3 h4 =>
    rw [V.tr]
    split
    · rename_i d hd
      obtain ⟨e1, e2⟩ := hr _ d _ _ hd h1
      exact .ead e1 h2 h3 (e2.trans h4)
    · exact .im .any
  | cad u h1 h2 =>
    rw [V.tr]
    split
    · rename_i e
      obtain ⟨e1, e2⟩ := hkc e
      exact (Rep.cad u h1 h2).cad_sub e1 e2
    · exact .im .any
  | agg hl _ h1 ih =>
    rw [V.tr, trs_map]
    refine .agg (by simpa using hl) (fun i p v hp hv => ?_) h1
    rw [List.getElem?_map] at hp
    obtain ⟨q, hq, rfl⟩ := Option.map_eq_some_iff.1 hp
    exact ih i q v hq hv (hcl.imp (fun h => closeds_get (by rw [V.closed] at h; exact h) hq) id)
  | tup hl _ ih =>
    rw [V.tr, trs_map]
    refine .tup (by simpa using hl) (fun i p v hp hv => ?_)
    rw [List.getElem?_map] at hp
    obtain ⟨q, hq, rfl⟩ := Option.map_eq_some_iff.1 hp
    exact ih i q v hq hv (hcl.imp (fun h => closeds_get (by rw [V.closed] at h; exact h) hq) id)
  | fn hl _ ih =>
    rw [V.tr, trs_map]
    refine .fn (by simpa using hl) (fun i p v hp hv => ?_)
    rw [List.getElem?_map] at hp
    obtain ⟨q, hq, rfl⟩ := Option.map_eq_some_iff.1 hp
    exact ih i q v hq hv (hcl.imp (fun h => closeds_get (by rw [V.closed] at h; exact h) hq) id)
theorem BlkOk.ren {σ : Nat → Option Nat} {kc : Bool} {x : Blk} {v : Value} (h : BlkOk P M w m ρ v x) (hcl : closedM P [x] = true ∨ ∀ k, Mine M2 m2 ρ2 k → Mine M m ρ k) (hkc : kc = true → (∀ k, Own m2 ρ2 k → Own m ρ k) ∧ ∀ k, Mine M2 m2 ρ2 k → Mine M m ρ k)
    (hr : ∀ b d e es, σ b = some d → m[b]? = some (.row e es) → m2[d]? = some (.row e es) ∧ ρ2 d = ρ b) (hv : ∀ b d cs, σ b = some d → m[b]? = some (.var cs) → (∃ cs', m2[d]? = some (.var cs')) ∧ ρ2 d = ρ b) : BlkOk P M2 w m2 ρ2 v (renB σ kc x) := by
  cases h with
  | dead => exact .dead
  | var hg hl hj h1 =>
    refine .var hg (by simpa using hl) (fun j p v hp hv' => ?_) h1
    rw [List.getElem?_map] at hp
    obtain ⟨q, hq, rfl⟩ := Option.map_eq_some_iff.1 hp
    exact (hj j q v hq hv').ren (hcl.imp (fun h => by simp only [closedM, Bool.and_true] at h; exact closeds_get h hq) id) hkc hr hv
  | row hi hz hzs h0 hby hlen ho hs hf hx h1 =>
    refine .row hi hz hzs h0 hby hlen ho hs hf (fun q j x p hq hj => ?_) h1
    obtain ⟨u, hu, him⟩ := hx q j x p hq hj
    refine ⟨u, hu, ?_⟩
    rcases hcl with hcl | hcl
    · simp only [closedM, Bool.and_true] at hcl
      exact him.flat (hf hcl x (List.mem_of_getElem? hq) p (List.mem_of_getElem? hj))
    · exact him.sub hcl
def orig (n : Nat) (es : List Nat) (d : Nat) : Nat := if d < n then d else es.getD (d - n) 0
theorem canonM_get {n : Nat} {es : List Nat} {kc : Bool} (hn : n ≤ m.length) (d : Nat) : (canonM n m es kc)[d]? = if d < n then (m[d]?).map (renB (pos n es) kc) else (es[d - n]?).map fun b => renB (pos n es) kc (m[b]?.getD .dead) := by
  unfold canonM
  by_cases h : d < n
  · rw [if_pos h, List.getElem?_append_left (by simp; omega), List.getElem?_map, List.getElem?_take, if_pos h]
  · rw [if_neg h, List.getElem?_append_right (by simp; omega), List.getElem?_map, List.length_map, List.length_take, Nat.min_eq_left hn]
theorem renB_dead {σ : Nat → Option Nat} {kc : Bool} {x : Blk} (h : renB σ kc x ≠ .dead) : x ≠ .dead := fun e => by subst e; exact h rfl
theorem canon_at {n : Nat} {es : List Nat} {kc : Bool} (hn : n ≤ m.length) {d : Nat} {y : Blk} (h : (canonM n m es kc)[d]? = some y) (hd : y ≠ .dead) : ∃ x, m[orig n es d]? = some x ∧ x ≠ .dead ∧ y = renB (pos n es) kc x := by
  rw [canonM_get hn] at h
  unfold orig
  split at h
  · rename_i hlt
    rw [if_pos hlt]
    obtain ⟨x, hx, rfl⟩ := Option.map_eq_some_iff.1 h
    exact ⟨x, hx, renB_dead hd, rfl⟩
  · rename_i hlt
    rw [if_neg hlt]
    obtain ⟨b, hb, rfl⟩ := Option.map_eq_some_iff.1 h
    have : es.getD (d - n) 0 = b := by rw [List.getD_eq_getElem?_getD, hb]; rfl
    rw [this]
    cases hm : m[b]? with
    | none => rw [hm] at hd; exact absurd rfl hd
    | some x => rw [hm] at hd; exact ⟨x, rfl, renB_dead hd, rfl⟩
theorem pos_at {n : Nat} {es : List Nat} (hn : n ≤ m.length) {kc : Bool} {b d : Nat} {x : Blk} (h : pos n es b = some d) (hm : m[b]? = some x) : (canonM n m es kc)[d]? = some (renB (pos n es) kc x) ∧ orig n es d = b := by
  unfold pos at h
  split at h
  · rename_i hlt; cases h
    exact ⟨by rw [canonM_get hn, if_pos hlt, hm]; rfl, if_pos hlt⟩
  · obtain ⟨i, hi, rfl⟩ := Option.map_eq_some_iff.1 h
    have := idxOf?_get es b i hi
    refine ⟨by rw [canonM_get hn, if_neg (by omega), Nat.add_sub_cancel, this, Option.map_some, hm]; rfl, ?_⟩
    unfold orig
    rw [if_neg (by omega), Nat.add_sub_cancel, List.getD_eq_getElem?_getD, this]; rfl
/-- What is left of the state, its places counted anew. -/
theorem Inv.canon (h : Inv c tm m ρ a w) {es : List Nat} (hnd : es.Nodup) (hge : ∀ b ∈ es, c.n ≤ b) (kc : Bool) : Inv c (renT (pos c.n es) kc tm) (canonM c.n m es kc) (fun d => ρ (orig c.n es d)) a w ∧ ∀ p v, Rep c.M w m ρ p v → Rep c.M w (canonM c.n m es kc) (fun d => ρ (orig c.n es d)) (V.ren (pos c.n es) kc p) v := by
  have hn := h.ft.len
  have hlive : ∀ d, Live (canonM c.n m es kc) d → Live m (orig c.n es d) := by
    rintro d ⟨y, hy, hd⟩
    obtain ⟨x, hx, hxd, _⟩ := canon_at hn hy hd
    exact ⟨x, hx, hxd⟩
  have hO : ∀ k, Own (canonM c.n m es kc) (fun d => ρ (orig c.n es d)) k → Own m ρ k := fun k ⟨d, hd, hk⟩ => ⟨_, hlive d hd, hk⟩
  have hN : ∀ k, Mine c.M (canonM c.n m es kc) (fun d => ρ (orig c.n es d)) k → Mine c.M m ρ k := fun k hk => hk.imp id (hO k)
  have hr : ∀ b d e es', pos c.n es b = some d → m[b]? = some (.row e es') → (canonM c.n m es kc)[d]? = some (.row e es') ∧ (fun d => ρ (orig c.n es d)) d = ρ b := by
    intro b d e es' h1 h2
    obtain ⟨h3, h4⟩ := pos_at (kc := kc) hn h1 h2
    exact ⟨h3, by simp only [h4]⟩
  have hv : ∀ b d cs, pos c.n es b = some d → m[b]? = some (.var cs) → (∃ cs', (canonM c.n m es kc)[d]? = some (.var cs')) ∧ (fun d => ρ (orig c.n es d)) d = ρ b := by
    intro b d cs h1 h2
    obtain ⟨h3, h4⟩ := pos_at (kc := kc) hn h1 h2
    exact ⟨⟨_, h3⟩, by simp only [h4]⟩
  have hrep : ∀ p v, Rep c.M w m ρ p v → Rep c.M w (canonM c.n m es kc) (fun d => ρ (orig c.n es d)) (V.ren (pos c.n es) kc p) v := fun p v hp => hp.ren (.inr hN) (fun _ => ⟨hO, hN⟩) hr hv
  have hget : ∀ (tm : Tm) (t : Nat), get (renT (pos c.n es) kc tm) t = V.ren (pos c.n es) kc (get tm t) := by
    intro tm t
    induction tm with
    | nil => simp [renT, get, V.ren, tr]
    | cons q tm ih => obtain ⟨k, p⟩ := q; simp only [renT, get, ih]; split <;> rfl
  refine ⟨⟨h.sz, h.df, fun t => by rw [hget]; exact hrep _ _ (h.tm t), fun d y hy => ?_, fun d d' k hd hd' hk hk' => ?_, fun d k hd hk => h.new _ k (hlive d hd) hk, h.fr, h.old, h.dis, ?_⟩, hrep⟩
  · by_cases hd : y = .dead
    · subst hd; exact .dead
    · obtain ⟨x, hx, _, rfl⟩ := canon_at hn hy hd
      exact (h.blk _ x hx).ren (.inr hN) (fun _ => ⟨hO, hN⟩) hr hv
  · have he := h.sep _ _ k (hlive d hd) (hlive d' hd') hk hk'
    obtain ⟨y, hy, hyd⟩ := hd
    obtain ⟨y', hy', hyd'⟩ := hd'
    rw [canonM_get hn] at hy hy'
    unfold orig at he
    by_cases h1 : d < c.n <;> by_cases h2 : d' < c.n
    · rw [if_pos h1, if_pos h2] at he; exact he
    · rw [if_neg h2] at hy'
      rw [if_pos h1, if_neg h2] at he
      obtain ⟨b, hb, _⟩ := Option.map_eq_some_iff.1 hy'
      rw [List.getD_eq_getElem?_getD, hb] at he
      have := hge b (List.mem_of_getElem? hb)
      simp at he; omega
    · rw [if_neg h1] at hy
      rw [if_neg h1, if_pos h2] at he
      obtain ⟨b, hb, _⟩ := Option.map_eq_some_iff.1 hy
      rw [List.getD_eq_getElem?_getD, hb] at he
      have := hge b (List.mem_of_getElem? hb)
      simp at he; omega
    · rw [if_neg h1] at hy
      rw [if_neg h2] at hy'
      rw [if_neg h1, if_neg h2] at he
      obtain ⟨b, hb, _⟩ := Option.map_eq_some_iff.1 hy
      obtain ⟨b', hb', _⟩ := Option.map_eq_some_iff.1 hy'
      rw [List.getD_eq_getElem?_getD, hb, List.getD_eq_getElem?_getD, hb'] at he
      simp at he
      subst he
      have l1 := lt_of_get hb
      have l2 := lt_of_get hb'
      rw [List.getElem?_eq_getElem l1] at hb
      rw [List.getElem?_eq_getElem l2] at hb'
      have := nodup_inj hnd l1 l2 ((Option.some.inj hb).trans (Option.some.inj hb').symm)
      omega
  · have hor : ∀ b, b < c.n → orig c.n es b = b := fun b hb => if_pos hb
    refine ⟨?_, fun b cs hb hm => ?_, fun b e es' hb hm => ?_, fun b hb hm => ?_⟩
    · unfold canonM; simp; omega
    · obtain ⟨h1, cs', h2⟩ := h.ft.var b cs hb hm
      exact ⟨by simp only [hor b hb]; exact h1, _, by rw [canonM_get hn, if_pos hb, h2]; rfl⟩
    · rcases h.ft.row b e es' hb hm with h1 | ⟨h1, e', es2, h2⟩
      · left; rw [canonM_get hn, if_pos hb, h1]; rfl
      · exact .inr ⟨fun hlt => by simp only [hor b hb]; exact h1 hlt, e', es2, by rw [canonM_get hn, if_pos hb, h2]; rfl⟩
    · rw [canonM_get hn, if_pos hb, h.ft.dead b hb hm]; rfl
theorem get_keep (tm : Tm) : ∀ (l : List Nat) (t : Nat), get (keep tm l) t = get tm t ∨ get (keep tm l) t = .any
  | [], t => .inr rfl
  | s :: l, t => by
    rw [keep, get]
    split
    · rename_i e; subst e; exact .inl rfl
    · exact get_keep tm l t
theorem Inv.keep (h : Inv c tm m ρ a w) (l : List Nat) : Inv c (V.keep tm l) m ρ a w := by
  refine ⟨h.sz, h.df, fun t => ?_, h.blk, h.sep, h.new, h.fr, h.old, h.dis, h.ft⟩
  rcases get_keep tm l t with e | e
  · rw [e]; exact h.tm t
  · rw [e]; exact .im .any
theorem head_sound (h : Inv c tm m ρ a w) {live : List Nat} {X : Tm → Mem → Prop} (hX : head c.n live tm m X) : Then c X a w :=
  let ⟨h1, h2⟩ := reach_spec c.n m (vals (V.keep tm live))
  ⟨_, _, _, hX, ((h.keep live).canon h1 h2 true).1⟩
theorem closedM_get : ∀ {l : Mem} {i : Nat} {x : Blk}, closedM P l = true → l[i]? = some x → closedM P [x] = true
  | .dead :: l, 0, x, h, hx => by simp at hx; subst hx; rfl
  | .var cs :: l, 0, x, h, hx => by simp at hx; subst hx; simp only [closedM, Bool.and_eq_true] at h ⊢; exact ⟨h.1, trivial⟩
  | .row e es :: l, 0, x, h, hx => by simp at hx; subst hx; simp only [closedM, Bool.and_eq_true] at h ⊢; exact ⟨h.1, trivial⟩
  | .dead :: l, i + 1, x, h, hx => by simp only [closedM] at h; simp at hx; exact closedM_get h hx
  | .var cs :: l, i + 1, x, h, hx => by simp only [closedM, Bool.and_eq_true] at h; simp at hx; exact closedM_get h.2 hx
  | .row e es :: l, i + 1, x, h, hx => by simp only [closedM, Bool.and_eq_true] at h; simp at hx; exact closedM_get h.2 hx
theorem not_own_nil {ρ : Nat → Value} {k : Nat} : ¬ Own [] ρ k := by
  rintro ⟨b, ⟨x, hx, _⟩, _⟩
  simp at hx
/-- What a call has made is laid behind what there is. -/
theorem Inv.join (h : Inv c tm m ρ a w) {Mc : Nat → Prop} {r : PV} {v : Value} (hf : Fr (Own [] ρ2) w w') (hrep : Rep Mc w' m' ρ' r v) (hmem : MemOk c.P Mc w' m' ρ') (hnew : ∀ b k, Live m' b → own1 (ρ' b) = some k → w.heap.size ≤ k)
    (hcl : (closed r && closedM c.P m') = true ∨ ∀ k, Mine c.M m ρ k → Mc k) {d : Option Tmp} (hd : ∀ t, d = some t → t < c.N) :
    Inv c (V.put tm d (V.ren (shift m.length) false r)) (m ++ m'.map (renB (shift m.length) false)) (fun b => if b < m.length then ρ b else ρ' (b - m.length)) (a.put d v) w' := by
  generalize hL : m.length = L
  generalize hρ : (fun b => if b < L then ρ b else ρ' (b - L)) = ρ3
  generalize hm3 : m ++ m'.map (renB (shift L) false) = m3
  have g1 : ∀ b, b < L → m3[b]? = m[b]? := fun b hb => by rw [← hm3, List.getElem?_append_left (by omega)]
  have g2 : ∀ b, m3[b + L]? = (m'[b]?).map (renB (shift L) false) := fun b => by rw [← hm3, List.getElem?_append_right (by omega), List.getElem?_map, hL, Nat.add_sub_cancel]
  have r1 : ∀ b, b < L → ρ3 b = ρ b := fun b hb => by rw [← hρ]; exact if_pos hb
  have r2 : ∀ b, ρ3 (b + L) = ρ' b := fun b => by rw [← hρ]; simp only; rw [if_neg (by omega), Nat.add_sub_cancel]
  have hfb : ∀ k, k < w.heap.size → w'.heap[k]? = w.heap[k]? := fun k hk => hf.block k hk not_own_nil
  have split : ∀ b, Live m3 b → (b < L ∧ Live m b) ∨ ∃ d, b = d + L ∧ Live m' d := by
    rintro b ⟨x, hx, hdx⟩
    by_cases hb : b < L
    · rw [g1 b hb] at hx; exact .inl ⟨hb, x, hx, hdx⟩
    · obtain ⟨d, rfl⟩ : ∃ d, b = d + L := ⟨b - L, by omega⟩
      rw [g2] at hx
      obtain ⟨y, hy, rfl⟩ := Option.map_eq_some_iff.1 hx
      exact .inr ⟨d, rfl, y, hy, renB_dead hdx⟩
  have hO : ∀ k, k < w.heap.size → Own m3 ρ3 k → Own m ρ k := by
    rintro k hk ⟨b, hb, hbk⟩
    rcases split b hb with ⟨hlt, hl⟩ | ⟨d, rfl, hl⟩
    · rw [r1 b hlt] at hbk; exact ⟨b, hl, hbk⟩
    · rw [r2] at hbk; have := hnew d k hl hbk; omega
  have hN : ∀ k, k < w.heap.size → Mine c.M m3 ρ3 k → Mine c.M m ρ k := fun k hk h => h.imp id (hO k hk)
  have hmv : Mv (Own m ρ) w w' := ⟨hf.size, fun k hk _ => hfb k hk⟩
  have hr : ∀ b e es, m[b]? = some (.row e es) → ρ3 b = ρ b ∧ ∃ e' es', m3[b]? = some (.row e' es') ∧ es'.length = es.length ∧ ∀ sz, (∀ x ∈ es, x.length = sz) → ∀ x ∈ es', x.length = sz := by
    intro b e es hb
    have hlt : b < L := by rw [← hL]; exact lt_of_get hb
    exact ⟨r1 b hlt, e, es, by rw [g1 b hlt]; exact hb, rfl, fun _ h => h⟩
  have hv : ∀ b cs, m[b]? = some (.var cs) → ρ3 b = ρ b ∧ ∃ cs', m3[b]? = some (.var cs') := by
    intro b cs hb
    have hlt : b < L := by rw [← hL]; exact lt_of_get hb
    exact ⟨r1 b hlt, cs, by rw [g1 b hlt]; exact hb⟩
  have hcl' : (closed r = true ∧ closedM c.P m' = true) ∨ ∀ k, Mine c.M m3 ρ3 k → Mine Mc m' ρ' k := by
    rcases hcl with hcl | hcl
    · exact .inl (by simpa using hcl)
    · right
      rintro k (hM | ⟨b, hb, hbk⟩)
      · exact .inl (hcl k (.inl hM))
      · rcases split b hb with ⟨hlt, hl⟩ | ⟨d, rfl, hl⟩
        · rw [r1 b hlt] at hbk; exact .inl (hcl k (.inr ⟨b, hl, hbk⟩))
        · rw [r2] at hbk; exact .inr ⟨d, hl, hbk⟩
  have sr : ∀ b d e es, shift L b = some d → m'[b]? = some (.row e es) → m3[d]? = some (.row e es) ∧ ρ3 d = ρ' b := by
    intro b d e es h1 h2
    simp only [shift, Option.some.injEq] at h1
    subst h1
    exact ⟨by rw [g2, h2]; rfl, r2 b⟩
  have sv : ∀ b d cs, shift L b = some d → m'[b]? = some (.var cs) → (∃ cs', m3[d]? = some (.var cs')) ∧ ρ3 d = ρ' b := by
    intro b d cs h1 h2
    simp only [shift, Option.some.injEq] at h1
    subst h1
    exact ⟨⟨_, by rw [g2, h2]; rfl⟩, r2 b⟩
  have hsz : c.w0.heap.size ≤ w.heap.size := h.fr.size
  have base : Inv c tm m3 ρ3 a w' := by
    refine ⟨h.sz, h.df, fun t => (h.tm t).move hmv hO hN hr hv, fun b x hx => ?_, fun b b' k hb hb' hk hk' => ?_, fun b k hb hk => ?_, h.fr.step hf.os hf.tape hf.output hf.size (fun k hk _ => hfb k (by omega)), h.old, h.dis, ?_⟩
    · by_cases hlt : b < L
      · rw [g1 b hlt] at hx
        rw [r1 b hlt]
        exact (h.blk b x hx).move (fun k _ hk => hfb k hk) hmv hO hN hr hv
      · obtain ⟨d, rfl⟩ : ∃ d, b = d + L := ⟨b - L, by omega⟩
        rw [g2] at hx
        obtain ⟨y, hy, rfl⟩ := Option.map_eq_some_iff.1 hx
        rw [r2]
        exact (hmem.blk d y hy).ren (hcl'.imp (fun h => closedM_get h.2 hy) id) (fun e => by cases e) sr sv
    · rcases split b hb with ⟨h1, h2⟩ | ⟨d, rfl, h2⟩ <;> rcases split b' hb' with ⟨h3, h4⟩ | ⟨d', rfl, h4⟩
      · rw [r1 b h1] at hk; rw [r1 b' h3] at hk'; exact h.sep b b' k h2 h4 hk hk'
      · rw [r1 b h1] at hk; rw [r2] at hk'
        have := hnew d' k h4 hk'; have := h.lt h2 hk; omega
      · rw [r2] at hk; rw [r1 b' h3] at hk'
        have := hnew d k h2 hk; have := h.lt h4 hk'; omega
      · rw [r2] at hk hk'; rw [hmem.sep d d' k h2 h4 hk hk']
    · rcases split b hb with ⟨h1, h2⟩ | ⟨d, rfl, h2⟩
      · rw [r1 b h1] at hk; exact h.new b k h2 hk
      · rw [r2] at hk; have := hnew d k h2 hk; exact .inl (by omega)
    · have hl := h.ft.len
      refine ⟨by rw [← hm3, List.length_append]; omega, fun b cs hb hm => ?_, fun b e es hb hm => ?_, fun b hb hm => ?_⟩
      · rw [r1 b (by omega), g1 b (by omega)]; exact h.ft.var b cs hb hm
      · rw [r1 b (by omega), g1 b (by omega)]; exact h.ft.row b e es hb hm
      · rw [g1 b (by omega)]; exact h.ft.dead b hb hm
  exact base.put hd (hrep.ren (hcl'.imp (fun h => h.1) id) (fun e => by cases e) sr sv)
variable {lent : FuncId → Bool} {d : Option Tmp} {ty : TypeId} {pos : String} {af : Array Edge} {g : Option (Nat × Bool)} {k : Tm → Mem → Prop} {Q : Exit → Act → World → Prop}
/-- A function that is called by its value. -/
theorem enter_run {f : FuncId} {fo : Operand} {args : Array Operand} {ts : Array TypeId} {cv : Array Value} (hfo : a.eval fo = .func (.func f) #[] cv) (hb : ∃ fn co, P.funcs[f]? = some fn ∧ fn.body = some co ∧ (fn.name == "runtime.NumGoroutine") = false) (w : World) :
    (execOp a.eval ⟨d, .call { callee := .value fo, args := args, argTypes := ts }, ty, pos, af, g⟩).run P w = .ok (.enter f (args.map a.eval ++ cv)) w := by
  obtain ⟨fn, co, hfn, hbody, hname⟩ := hb
  simp [execOp, resolve, hfo, Deferred.ofValue, invoke, callFunc, hfn, hbody]
  simpa using hname
theorem fn_args (h : Inv c tm m ρ a w) {f : FuncId} {caps : List PV} {fo : Operand} (he : ev tm fo = .fn f caps) (args : Array Operand) : ∃ cv, a.eval fo = .func (.func f) #[] cv ∧ (args.toList.map (ev tm) ++ caps).length = (args.map a.eval ++ cv).size ∧ ∀ (i : Nat) (p : PV) (v : Value), (args.toList.map (ev tm) ++ caps)[i]? = some p → (args.map a.eval ++ cv)[i]? = some v → Rep c.M w m ρ p v := by
  have hx := h.ev fo
  rw [he] at hx
  generalize a.eval fo = vx at hx
  have key : ∃ cv, vx = .func (.func f) #[] cv ∧ caps.length = cv.size ∧ ∀ (i : Nat) (p : PV) (v : Value), caps[i]? = some p → cv[i]? = some v → Rep c.M w m ρ p v := by
    cases hx with
    | im hi => cases hi with
      | fn hl h1 => exact ⟨_, rfl, hl, fun i p v hp hv => .im (h1 i p v hp hv)⟩
    | fn hl h1 => exact ⟨_, rfl, hl, h1⟩
  obtain ⟨cv, rfl, hl, h1⟩ := key
  refine ⟨cv, rfl, by simp [hl], fun i p v hp hv => ?_⟩
  by_cases hi : i < args.size
  · rw [List.getElem?_append_left (by simpa using hi), List.getElem?_map] at hp
    rw [Array.getElem?_append_left (by simpa using hi), Array.getElem?_map] at hv
    obtain ⟨x, hx, rfl⟩ := Option.map_eq_some_iff.1 hp
    rw [Array.getElem?_toList] at hx
    rw [hx] at hv
    cases hv
    exact h.ev x
  · rw [List.getElem?_append_right (by simpa using hi)] at hp
    rw [Array.getElem?_append_right (by simpa using hi)] at hv
    exact h1 _ p v (by simpa using hp) (by simpa using hv)
theorem Fr.sub {S S' : Nat → Prop} {w w' : World} (h : Fr S w w') (hs : ∀ k, S k → S' k) : Fr S' w w' := ⟨h.os, h.tape, h.output, h.size, fun k hk hn => h.block k hk fun hh => hn (hs k hh)⟩
theorem Inv.stays (h : Inv c tm m ρ a w) (hf : Fr (fun _ => False) w w') : Inv c tm m ρ a w' := by
  have hmv : Mv (Own m ρ) w w' := ⟨hf.size, fun k hk _ => hf.block k hk fun h => h⟩
  have hr : ∀ b e es, m[b]? = some (.row e es) → ρ b = ρ b ∧ ∃ e' es', m[b]? = some (.row e' es') ∧ es'.length = es.length ∧ ∀ sz, (∀ x ∈ es, x.length = sz) → ∀ x ∈ es', x.length = sz := fun b e es hb => ⟨rfl, e, es, hb, rfl, fun _ h => h⟩
  have hv : ∀ b cs, m[b]? = some (.var cs) → ρ b = ρ b ∧ ∃ cs', m[b]? = some (.var cs') := fun b cs hb => ⟨rfl, cs, hb⟩
  exact ⟨h.sz, h.df, fun t => (h.tm t).move hmv (fun _ _ h => h) (fun _ _ h => h) hr hv, fun b x hx => (h.blk b x hx).move (fun k _ hk => hf.block k hk fun h => h) hmv (fun _ _ h => h) (fun _ _ h => h) hr hv, h.sep, h.new,
    h.fr.step hf.os hf.tape hf.output hf.size (fun k hk _ => hf.block k (Nat.lt_of_lt_of_le hk h.fr.size) fun h => h), h.old, h.dis, h.ft⟩
theorem mem_deepGo {m : Mem} {cs : List PV} {b b' : Nat} : ∀ {l : List Nat}, b ∈ l → m[b]? = some (.var cs) → b' ∈ idss cs → b' ∈ deepGo m l
  | x :: l, hb, hm, h => by
    rw [deepGo]
    rcases List.mem_cons.1 hb with rfl | hb
    · rw [hm]; exact List.mem_append_left _ h
    · exact List.mem_append_right _ (mem_deepGo hb hm h)
theorem s_callV {kp : Value → Tm → Mem → Prop} (hP : ∀ v a w, Then c (kp v) a w → Q (.panic [{ v := v, recovered := false }]) a w) (h : Inv c tm m ρ a w) (hd : ∀ t, d = some t → t < c.N) {f : FuncId} {fo : Operand} {caps : List PV} {args : Array Operand} {ts : Array TypeId} (he : ev tm fo = .fn f caps) (hs : callV c.P kp tm m d k f ((args.toList.map (ev tm) ++ caps).map (seen m)) (deep m (idss (args.toList.map (ev tm) ++ caps)))) : Oper.wp c.P ⟨d, .call { callee := .value fo, args := args, argTypes := ts }, ty, pos, af, g⟩ a w (Then c k) Q := by
  obtain ⟨cv, hfo, hlen, hargs⟩ := fn_args h he args
  generalize hps : args.toList.map (ev tm) ++ caps = ps at hs hlen hargs
  obtain ⟨hb, hcall⟩ := hs
  generalize hbs : deep m (idss ps) = bs at hcall
  have hc := hcall (Mine c.M (frzM bs m 0 m) ρ) w (args.map a.eval ++ cv) (fun _ => undef) (fun k hk => by
    rcases hk with hM | ⟨b, hb, hk⟩
    · have := h.old k hM; have := h.fr.size; omega
    · exact h.lt (frzM_live hb).1 hk) ⟨fun b x hx => by simp at hx, fun b b' k ⟨x, hx, _⟩ => by simp at hx, fun b k ⟨x, hx, _⟩ => by simp at hx⟩ (by simpa using hlen) (fun i p v hp hv => by
    rw [List.getElem?_map] at hp
    obtain ⟨x, hx, rfl⟩ := Option.map_eq_some_iff.1 hp
    refine h.seen (hargs i x v hx hv) (fun b hb => ?_)
    have hb' : b ∈ idss ps := mem_idss hx hb
    rw [← hbs]
    exact ⟨List.mem_append_left _ hb', fun cs hm b' hb2 => List.mem_append_right _ (mem_deepGo hb' hm hb2)⟩)
  unfold Oper.wp
  rw [enter_run hfo hb w, Oper.upon_enter]
  refine hc.mono fun e w' he => ?_
  rcases he with ⟨v, r, m', ρ', rfl, hq, hf, hrep, hmem, _, hnew⟩ | ⟨v, rfl, hR, hf⟩
  case inr =>
    show Q (.panic [{ v := v, recovered := false }]) a w'
    exact hP v a w' ⟨tm, m, ρ, hR, h.stays (hf.sub fun k hk => not_own_nil hk)⟩
  show Then c k (a.put d v) w'
  have hnew' : ∀ b k, Live m' b → own1 (ρ' b) = some k → w.heap.size ≤ k := fun b k hb hk => (hnew b k hb hk).resolve_right not_own_nil
  unfold landV at hq
  split at hq
  · rename_i hcl
    exact ⟨_, _, _, hq, h.join hf hrep hmem hnew' (.inl hcl) hd⟩
  · refine ⟨_, _, _, ?_, (h.frz bs).join hf hrep hmem hnew' (.inr fun k hk => hk) hd⟩
    rw [frzM_length]; exact hq
end
end Go.V
