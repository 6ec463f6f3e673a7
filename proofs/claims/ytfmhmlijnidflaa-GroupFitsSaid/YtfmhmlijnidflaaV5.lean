import Derived.Test.YtfmhmlijnidflaaV4
set_option linter.unusedVariables false
set_option linter.unusedSectionVars false
set_option linter.unusedSimpArgs false
namespace Go.V
open Go
theorem trs_map (o : Nat → PV) (s : Nat → Nat → Nat → PV) (a : Nat → Nat → PV) (e : Nat → Nat → Nat → PV) (c : List PV → PV) : ∀ l : List PV, trs o s a e c l = l.map (tr o s a e c)
  | [] => by simp [trs]
  | p :: l => by simp [trs, trs_map o s a e c l]
theorem mem_idss : ∀ {l : List PV} {b i : Nat} {p : PV}, l[i]? = some p → b ∈ ids p → b ∈ idss l
  | q :: l, b, 0, p, hp, hb => by simp at hp; subst hp; simp [idss, hb]
  | q :: l, b, i + 1, p, hp, hb => by simp at hp; simp [idss, mem_idss hp hb]
theorem map_eq_of {l : List PV} {f : PV → PV} (h : ∀ (i : Nat) (p : PV), l[i]? = some p → f p = p) : l.map f = l := by
  apply List.ext_getElem?
  intro i
  rw [List.getElem?_map]
  cases hi : l[i]? with
  | none => rfl
  | some p => rw [Option.map_some, h i p hi]
section
variable {c : Cx} {P : Program} {M M' : Nat → Prop} {w0 w w' : World} {S : Nat → Prop} {N : Nat} {tm : Tm} {m m' : Mem} {ρ ρ' : Nat → Value} {a : Act}
theorem Im.tr_eq {Nn : Nat → Prop} {p : PV} {v : Value} (h : Im w Nn p v) (o : Nat → PV) (s : Nat → Nat → Nat → PV) (a : Nat → Nat → PV) (e : Nat → Nat → Nat → PV) (c : List PV → PV) : tr o s a e c p = p := by
  induction h with
  | val => simp [tr]
  | any => simp [tr]
  | sl => simp [tr]
  | agg hl _ _ ih => rw [tr, trs_map, map_eq_of (fun i p hp => let ⟨v, hv⟩ := val_at hl hp; ih i p v hp hv)]
  | tup hl _ ih => rw [tr, trs_map, map_eq_of (fun i p hp => let ⟨v, hv⟩ := val_at hl hp; ih i p v hp hv)]
  | fn hl _ ih => rw [tr, trs_map, map_eq_of (fun i p hp => let ⟨v, hv⟩ := val_at hl hp; ih i p v hp hv)]
theorem Rep.tr {p : PV} {v : Value} (h : Rep M w m ρ p v) (o : Nat → PV) (s : Nat → Nat → Nat → PV) (ad : Nat → Nat → PV) (ea : Nat → Nat → Nat → PV) (cd : List PV → PV) (I : Nat → Prop) (hI : ∀ b ∈ ids p, I b)
    (him : ∀ p v, Im w (Mine M m ρ) p v → Im w' (Mine M' m' ρ') p v)
    (ho : ∀ b e es, I b → m[b]? = some (.row e es) → Rep M' w' m' ρ' (o b) (ρ b))
    (hs : ∀ b l h v e es, I b → m[b]? = some (.row e es) → Rep M w m ρ (.osl b l h) v → Rep M' w' m' ρ' (s b l h) v)
    (ha : ∀ b i g cs, I b → m[b]? = some (.var cs) → ρ b = .pointer (some ⟨g, 0, none⟩) → Rep M' w' m' ρ' (ad b i) (.pointer (some ⟨g, i, none⟩)))
    (he : ∀ b i j g n c sz e es, I b → m[b]? = some (.row e es) → i < es.length → (∀ x ∈ es, x.length = sz) → ρ b = .slice (some ⟨g, 0, none⟩) n c → Rep M' w' m' ρ' (ea b i j) (.pointer (some ⟨g, i * sz + j, none⟩)))
    (hc : ∀ cs v, Rep M w m ρ (.cad cs) v → Rep M' w' m' ρ' (cd cs) v) : Rep M' w' m' ρ' (V.tr o s ad ea cd p) v := by
  induction h with
  | im h => rw [h.tr_eq]; exact .im (him _ _ h)
  | own h => rw [V.tr]; exact ho _ _ _ (hI _ (by simp [ids])) h
  | osl0 h h1 h2 => rw [V.tr]; exact hs _ _ _ _ _ _ (hI _ (by simp [ids])) h (.osl0 h h1 h2)
  | osl h h1 h2 h3 h4 h5 h6 h7 => rw [V.tr]; exact hs _ _ _ _ _ _ (hI _ (by simp [ids])) h (.osl h h1 h2 h3 h4 h5 h6 h7)
  | adr h hg => rw [V.tr]; exact ha _ _ _ _ (hI _ (by simp [ids])) h hg
  | ead h hi hs hg => rw [V.tr]; exact he _ _ _ _ _ _ _ _ _ (hI _ (by simp [ids])) h hi hs hg
  | cad u h hi => rw [V.tr]; exact hc _ _ (.cad u h hi)
  | agg hl _ h1 ih =>
    rw [V.tr, trs_map]
    refine .agg (by simpa using hl) (fun i p v hp hv => ?_) h1
    rw [List.getElem?_map] at hp
    obtain ⟨q, hq, rfl⟩ := Option.map_eq_some_iff.1 hp
    exact ih i q v hq hv (fun b hb => hI b (by rw [ids]; exact mem_idss hq hb))
  | tup hl _ ih =>
    rw [V.tr, trs_map]
    refine .tup (by simpa using hl) (fun i p v hp hv => ?_)
    rw [List.getElem?_map] at hp
    obtain ⟨q, hq, rfl⟩ := Option.map_eq_some_iff.1 hp
    exact ih i q v hq hv (fun b hb => hI b (by rw [ids]; exact mem_idss hq hb))
  | fn hl _ ih =>
    rw [V.tr, trs_map]
    refine .fn (by simpa using hl) (fun i p v hp hv => ?_)
    rw [List.getElem?_map] at hp
    obtain ⟨q, hq, rfl⟩ := Option.map_eq_some_iff.1 hp
    exact ih i q v hq hv (fun b hb => hI b (by rw [ids]; exact mem_idss hq hb))
theorem Rep.cad_sub {cs : List PV} {v : Value} (h : Rep M w m ρ (.cad cs) v) (hO : ∀ k, Own m' ρ' k → Own m ρ k) (hN : ∀ k, Mine M' m' ρ' k → Mine M m ρ k) : Rep M' w m' ρ' (.cad cs) v :=
  h.cad_move (Mv.refl _ w) (fun k _ => hO k) (fun k _ => hN k)
theorem RowAt.im {v : Value} {es : List (List PV)} (h : RowAt M w m ρ v es) {Nn : Nat → Prop} (hN : es.length ≠ 0 → ∀ g, own1 v = some g → ¬ Nn g) (hs : ∀ k, Nn k → Mine M m ρ k) : Im w Nn (.sl es) v := by
  obtain ⟨A, cc, sz, rfl, hx, hc, hsz, _, hA⟩ := h
  by_cases h0 : es.length = 0
  · have : es = [] := List.eq_nil_of_length_eq_zero h0
    subst this
    exact .sl (sz := sz) (fun _ _ => undef) rfl hx hc hsz (.inl rfl) (fun i j e p he => by simp at he)
  · rcases hA with h | ⟨ad, rfl, hA⟩
    · exact absurd h h0
    have hg := hN h0 ad.block rfl
    have hu : ∀ (i j : Nat) (x : List PV) (p : PV), es[i]? = some x → x[j]? = some p → w.cell? (ad.add (i * sz + j)) = some ((w.cell? (ad.add (i * sz + j))).getD undef) ∧ ((w.cell? (ad.add (i * sz + j))).getD undef).oneCell' = true ∧ Im w Nn p ((w.cell? (ad.add (i * sz + j))).getD undef) := by
      intro i j x p hi hj
      obtain ⟨u, h1, h2, h3⟩ := hA i j x p hi hj
      rw [h1]
      exact ⟨rfl, h2, h3.sub hs⟩
    exact .sl (fun i j => (w.cell? (ad.add (i * sz + j))).getD undef) rfl hx hc hsz (.inr ⟨ad, rfl, fun i j x p hi hj => ⟨(hu i j x p hi hj).1, hg, (hu i j x p hi hj).2.1⟩⟩) (fun i j x p hi hj => (hu i j x p hi hj).2.2)
/-- One's own row, or a part of it, seen as what is only read. -/
theorem Rep.im_own (hb : ∀ b x, m[b]? = some x → BlkOk P M w m ρ (ρ b) x) {b : Nat} {e : TypeId} {es : List (List PV)} (hm : m[b]? = some (.row e es)) {Nn : Nat → Prop} (hN : ∀ k, own1 (ρ b) = some k → ¬ Nn k) (hs : ∀ k, Nn k → Mine M m ρ k) : Im w Nn (.sl es) (ρ b) :=
  (hb _ _ hm).rowAt.im (fun _ => hN) hs
theorem Rep.im_osl (hb : ∀ b x, m[b]? = some x → BlkOk P M w m ρ (ρ b) x) {b l hh : Nat} {e : TypeId} {es : List (List PV)} {v : Value} (hm : m[b]? = some (.row e es)) (h : Rep M w m ρ (.osl b l hh) v) {Nn : Nat → Prop} (hN : ∀ k, own1 (ρ b) = some k → ¬ Nn k) (hs : ∀ k, Nn k → Mine M m ρ k) : Im w Nn (.sl ((es.take hh).drop l)) v := by
  obtain ⟨es', e1, hra⟩ := row1_sound (K := fun x => x = (es.take hh).drop l) hb h (by simp only [row1, hm, onRowB])
  subst e1
  refine hra.im (fun hne g hg => ?_) hs
  cases h with
  | im hi => cases hi
  | osl0 hm' hl hr => exact hN g (by rw [hr, ← hg]; rename_i A _ _; cases A <;> rfl)
  | osl hm' h0 hl hhl hc hx hsz hr =>
    obtain ⟨hr1, hr, _⟩ := hr
    rcases hr1 with hr1 | rfl
    · exfalso; rw [List.length_drop, List.length_take] at hne; omega
    · exact hN g (by rw [hr, ← hg]; rfl)
theorem BlkOk.cad {g n cc i j sz : Nat} {e : TypeId} {es : List (List PV)} {x : List PV} (h : BlkOk P M w m ρ (.slice (some ⟨g, 0, none⟩) n cc) (.row e es)) (hi : es[i]? = some x) (hs : ∀ x ∈ es, x.length = sz) (hN : ¬ Own m' ρ' g) (hsub : ∀ k, Mine M' m' ρ' k → Mine M m ρ k) :
    Rep M' w m' ρ' (.cad (x.drop j)) (.pointer (some ⟨g, i * sz + j, none⟩)) := by
  cases h with
  | row hinf hz hzs h0 hby hlen ho hsz hf hx h1 =>
    rename_i xs inf z
    have e1 : inf.size = sz := by rw [← hsz x (List.mem_of_getElem? hi), hs x (List.mem_of_getElem? hi)]
    subst e1
    have hr : ∀ (j' : Nat) (p : PV), (x.drop j)[j']? = some p → ∃ u, xs[i * inf.size + j + j']? = some u ∧ Im w (Mine M m ρ) p u := by
      intro j' p hj
      rw [List.getElem?_drop] at hj
      rw [Nat.add_assoc]
      exact hx i _ x p hi hj
    refine .cad (fun j' => xs.getD (i * inf.size + j + j') undef) (fun j' p hj => ?_) (fun j' p hj => ?_)
    · obtain ⟨u, hu, _⟩ := hr j' p hj
      rw [List.getD_eq_getElem?_getD, hu]
      refine ⟨?_, hN, h1 u (List.mem_of_getElem? hu)⟩
      have := ho.cells (g := g) rfl _ u hu
      rw [add_none] at this ⊢
      simpa using this
    · obtain ⟨u, hu, him⟩ := hr j' p hj
      rw [List.getD_eq_getElem?_getD, hu]
      exact him.sub hsub
theorem pures_get : ∀ {l : List PV} {i : Nat} {p : PV}, pures l = true → l[i]? = some p → pure p = true
  | q :: l, 0, p, h, hp => by simp at hp; subst hp; simp [pures] at h; exact h.1
  | q :: l, i + 1, p, h, hp => by simp [pures] at h; simp at hp; exact pures_get h.2 hp
theorem Rep.pure {p : PV} {v : Value} (h : Rep M w m ρ p v) (hp : V.pure p = true) : Im w (Mine M m ρ) p v := by
  induction h with
  | im h => exact h
  | own h => simp [V.pure] at hp
  | osl0 h => simp [V.pure] at hp
  | osl h => simp [V.pure] at hp
  | adr h => simp [V.pure] at hp
  | ead h => simp [V.pure] at hp
  | cad u h hi => simp [V.pure] at hp
  | agg hl _ h1 ih => rw [V.pure] at hp; exact .agg hl (fun i p v hi hv => ih i p v hi hv (pures_get hp hi)) h1
  | tup hl _ ih => rw [V.pure] at hp; exact .tup hl (fun i p v hi hv => ih i p v hi hv (pures_get hp hi))
  | fn hl _ ih => rw [V.pure] at hp; exact .fn hl (fun i p v hi hv => ih i p v hi hv (pures_get hp hi))
theorem BlkOk.cad_var {g i : Nat} {cs : List PV} (h : BlkOk P M w m ρ (.pointer (some ⟨g, 0, none⟩)) (.var cs)) (hp : pures cs = true) (hN : ¬ Own m' ρ' g) (hsub : ∀ k, Mine M' m' ρ' k → Mine M m ρ k) : Rep M' w m' ρ' (.cad (cs.drop i)) (.pointer (some ⟨g, i, none⟩)) := by
  obtain ⟨g', e, hc⟩ := h.cells_var
  cases e
  have hu : ∀ (j : Nat) (p : PV), (cs.drop i)[j]? = some p → w.cell? ((⟨g, i, none⟩ : Addr).add j) = some ((w.cell? ((⟨g, i, none⟩ : Addr).add j)).getD undef) ∧ ((w.cell? ((⟨g, i, none⟩ : Addr).add j)).getD undef).oneCell' = true ∧ Im w (Mine M' m' ρ') p ((w.cell? ((⟨g, i, none⟩ : Addr).add j)).getD undef) := by
    intro j p hj
    rw [List.getElem?_drop] at hj
    obtain ⟨u, h1, h2, h3⟩ := hc _ p hj
    rw [add_none, Nat.zero_add] at h1
    rw [add_none, h1]
    exact ⟨rfl, h2, (h3.pure (pures_get hp hj)).sub hsub⟩
  exact .cad (fun j => (w.cell? ((⟨g, i, none⟩ : Addr).add j)).getD undef) (fun j p hj => ⟨(hu j p hj).1, hN, (hu j p hj).2.1⟩) (fun j p hj => (hu j p hj).2.2)
theorem frzM_get (bs : List Nat) (m : Mem) : ∀ (l : Mem) (c i : Nat), (frzM bs m c l)[i]? = (l[i]?).map fun
    | .var cs => .var (cs.map (frz1 bs m))
    | .row e es => if bs.contains (c + i) = true then .dead else .row e es
    | .dead => .dead
  | [], c, i => by simp [frzM]
  | .var cs :: l, c, 0 => by simp [frzM]
  | .row e es :: l, c, 0 => by simp [frzM]
  | .dead :: l, c, 0 => by simp [frzM]
  | .var cs :: l, c, i + 1 => by simp only [frzM, List.getElem?_cons_succ, frzM_get bs m l, Nat.add_assoc, Nat.add_comm 1 i]
  | .row e es :: l, c, i + 1 => by simp only [frzM, List.getElem?_cons_succ, frzM_get bs m l, Nat.add_assoc, Nat.add_comm 1 i]
  | .dead :: l, c, i + 1 => by simp only [frzM, List.getElem?_cons_succ, frzM_get bs m l, Nat.add_assoc, Nat.add_comm 1 i]
theorem frzM_row {bs : List Nat} {b : Nat} {e : TypeId} {es : List (List PV)} (h : m[b]? = some (.row e es)) (hn : ¬ bs.contains b = true) : (frzM bs m 0 m)[b]? = some (.row e es) := by
  rw [frzM_get, h, Option.map_some]; simp only [Nat.zero_add, if_neg hn]
theorem frzM_var {bs : List Nat} {b : Nat} {cs : List PV} (h : m[b]? = some (.var cs)) : (frzM bs m 0 m)[b]? = some (.var (cs.map (frz1 bs m))) := by
  rw [frzM_get, h, Option.map_some]
theorem frzM_live {bs : List Nat} {b : Nat} (h : Live (frzM bs m 0 m) b) : Live m b ∧ ((∃ e es, m[b]? = some (.row e es)) → ¬ bs.contains b = true) := by
  obtain ⟨x, hx, hd⟩ := h
  rw [frzM_get, Nat.zero_add] at hx
  obtain ⟨y, hy, rfl⟩ := Option.map_eq_some_iff.1 hx
  cases y with
  | dead => exact absurd rfl hd
  | var cs => exact ⟨live_var hy, fun ⟨e, es, h⟩ => by rw [hy] at h; cases h⟩
  | row e es =>
    refine ⟨live_row hy, fun _ hc => ?_⟩
    simp only [if_pos hc] at hd
    exact hd rfl
theorem own_frz {bs : List Nat} {k : Nat} (h : Own (frzM bs m 0 m) ρ k) : Own m ρ k := by
  obtain ⟨b, hb, hk⟩ := h
  exact ⟨b, (frzM_live hb).1, hk⟩
theorem mine_frz {bs : List Nat} {k : Nat} (h : Mine M (frzM bs m 0 m) ρ k) : Mine M m ρ k := h.imp id own_frz
theorem Inv.frz_own (h : Inv c tm m ρ a w) {bs : List Nat} {b k : Nat} {e : TypeId} {es : List (List PV)} (hm : m[b]? = some (.row e es)) (hb : bs.contains b = true) (hk : own1 (ρ b) = some k) : ¬ Own (frzM bs m 0 m) ρ k := by
  rintro ⟨c, hc, hk2⟩
  obtain ⟨h1, h2⟩ := frzM_live hc
  obtain rfl := h.sep c b k h1 (live_row hm) hk2 hk
  exact h2 ⟨_, _, hm⟩ hb
theorem Inv.frz_out (h : Inv c tm m ρ a w) {bs : List Nat} {b k : Nat} {e : TypeId} {es : List (List PV)} (hm : m[b]? = some (.row e es)) (hb : bs.contains b = true) (hk : own1 (ρ b) = some k) : ¬ Mine c.M (frzM bs m 0 m) ρ k := by
  rintro (hM | ho)
  · exact h.out (live_row hm) hk hM
  · exact h.frz_own hm hb hk ho
theorem Inv.frz1 (h : Inv c tm m ρ a w) (bs : List Nat) {p : PV} {v : Value} (hp : Rep c.M w m ρ p v) : Rep c.M w (frzM bs m 0 m) ρ (V.frz1 bs m p) v := by
  unfold V.frz1
  refine hp.tr _ _ _ _ _ (fun _ => True) (fun _ _ => trivial) (fun p v hi => hi.sub (fun k hk => mine_frz hk)) (fun b e es _ hm => ?_) (fun b l hh v e es _ hm hr => ?_) (fun b i g cs _ hm hg => .adr (frzM_var hm) hg) (fun b i j g n cc sz e es _ hm hi hs hg => ?_) (fun cs v hc => hc.cad_sub (fun k hk => own_frz hk) (fun k hk => mine_frz hk))
  · by_cases hb : bs.contains b = true
    · rw [if_pos hb, seen, tr]
      simp only [hm]
      exact .im (Rep.im_own h.blk hm (fun k hk => h.frz_out hm hb hk) (fun k hk => mine_frz hk))
    · rw [if_neg hb]
      exact .own (frzM_row hm hb)
  · by_cases hb : bs.contains b = true
    · rw [if_pos hb, seen, tr]
      simp only [hm]
      exact .im (Rep.im_osl h.blk hm hr (fun k hk => h.frz_out hm hb hk) (fun k hk => mine_frz hk))
    · rw [if_neg hb]
      cases hr with
      | im hi => cases hi
      | osl0 h1 h2 h3 => exact .osl0 (frzM_row h1 hb) h2 h3
      | osl h1 h2 h3 h4 h5 h6 h7 h8 => exact .osl (frzM_row h1 hb) h2 h3 h4 h5 h6 h7 h8
  · by_cases hb : bs.contains b = true
    · rw [if_pos hb, seen, tr]
      have hx : es[i]? = some es[i] := List.getElem?_eq_getElem hi
      simp only [hm, hx]
      have hok := h.blk b _ hm
      rw [hg] at hok
      exact hok.cad hx hs (h.frz_own hm hb (by rw [hg]; rfl)) (fun k hk => mine_frz hk)
    · rw [if_neg hb]
      exact .ead (frzM_row hm hb) hi hs hg
theorem get_frzT (bs : List Nat) (m : Mem) : ∀ (tm : Tm) (t : Nat), get (frzT bs m tm) t = V.frz1 bs m (get tm t)
  | [], t => by simp [frzT, get, V.frz1, tr]
  | (k, p) :: l, t => by simp only [frzT, get, get_frzT bs m l t]; split <;> rfl
theorem frzM_length (bs : List Nat) (m : Mem) : ∀ (l : Mem) (c : Nat), (frzM bs m c l).length = l.length
  | [], c => by simp [frzM]
  | .var cs :: l, c => by simp [frzM, frzM_length bs m l]
  | .row e es :: l, c => by simp [frzM, frzM_length bs m l]
  | .dead :: l, c => by simp [frzM, frzM_length bs m l]
theorem Inv.frz (h : Inv c tm m ρ a w) (bs : List Nat) : Inv c (frzT bs m tm) (frzM bs m 0 m) ρ a w := by
  refine ⟨h.sz, h.df, fun t => by rw [get_frzT]; exact h.frz1 bs (h.tm t), fun b x hx => ?_, fun b c k hb hc => h.sep b c k (frzM_live hb).1 (frzM_live hc).1, fun b k hb => h.new b k (frzM_live hb).1, h.fr, h.old, h.dis, ?_⟩
  · rw [frzM_get, Nat.zero_add] at hx
    obtain ⟨y, hy, rfl⟩ := Option.map_eq_some_iff.1 hx
    have hok := h.blk b y hy
    cases y with
    | dead => exact .dead
    | var cs =>
      generalize ρ b = v at hok ⊢
      cases hok with
      | var hg hl hj h1 =>
        refine .var hg (by simpa using hl) (fun j p v hp hv => ?_) h1
        rw [List.getElem?_map] at hp
        obtain ⟨q, hq, rfl⟩ := Option.map_eq_some_iff.1 hp
        exact h.frz1 bs (hj j q v hq hv)
    | row e es =>
      generalize ρ b = v at hok ⊢
      by_cases hb : bs.contains b = true
      · simp only [if_pos hb]; exact .dead
      · simp only [if_neg hb]
        cases hok with
        | row hinf hz hzs h0 hby hlen ho hsz hf hx h1 => exact .row hinf hz hzs h0 hby hlen ho hsz hf (fun q j x p hq hj => let ⟨u, h2, h3⟩ := hx q j x p hq hj; ⟨u, h2, h3.sub (fun k hk => mine_frz hk)⟩) h1
  · refine ⟨by rw [frzM_length]; exact h.ft.len, fun b cs hb hm => ?_, fun b e es hb hm => ?_, fun b hb hm => ?_⟩
    · obtain ⟨h1, cs', h2⟩ := h.ft.var b cs hb hm
      exact ⟨h1, _, frzM_var h2⟩
    · rcases h.ft.row b e es hb hm with h1 | ⟨h1, e', es', h2⟩
      · left; rw [frzM_get, h1]; rfl
      · by_cases hc : bs.contains b = true
        · left; rw [frzM_get, h2, Option.map_some]; simp only [Nat.zero_add, if_pos hc]
        · exact .inr ⟨h1, e', es', frzM_row h2 hc⟩
    · rw [frzM_get, h.ft.dead b hb hm]; rfl
section
variable (o : Nat → PV) (s : Nat → Nat → Nat → PV) (ad : Nat → Nat → PV) (ea : Nat → Nat → Nat → PV) (cd : List PV → PV) (ho : ∀ b, V.pure (o b) = true) (hs : ∀ b l h, V.pure (s b l h) = true) (ha : ∀ b i, V.pure (ad b i) = true) (he : ∀ b i j, V.pure (ea b i j) = true) (hc : ∀ cs, V.pure (cd cs) = true)
include ho hs ha he hc
mutual
theorem pure_tr : ∀ p : PV, V.pure (V.tr o s ad ea cd p) = true
  | .own b => by rw [V.tr]; exact ho b
  | .osl b l h => by rw [V.tr]; exact hs b l h
  | .adr b i => by rw [V.tr]; exact ha b i
  | .ead b i j => by rw [V.tr]; exact he b i j
  | .cad cs => by rw [V.tr]; exact hc cs
  | .agg cs => by rw [V.tr, V.pure]; exact pures_trs cs
  | .tup cs => by rw [V.tr, V.pure]; exact pures_trs cs
  | .fn f cs => by rw [V.tr, V.pure]; exact pures_trs cs
  | .val x => by rw [V.tr]; rfl
  | .any => by rw [V.tr]; rfl
  | .sl es => by rw [V.tr]; rfl
theorem pures_trs : ∀ l : List PV, V.pures (V.trs o s ad ea cd l) = true
  | [] => by rw [V.trs]; rfl
  | p :: l => by rw [V.trs, V.pures, pure_tr p, pures_trs l]; rfl
end
end
theorem pure_seen0 (m : Mem) (p : PV) : V.pure (seen0 m p) = true := by
  unfold seen0
  refine pure_tr _ _ _ _ _ (fun b => ?_) (fun b l h => ?_) (fun _ _ => rfl) (fun _ _ _ => rfl) (fun _ => rfl) p
  · split <;> rfl
  · split <;> rfl
theorem BlkOk.cad_deep {g i : Nat} {cs : List PV} (h : BlkOk P M w m ρ (.pointer (some ⟨g, 0, none⟩)) (.var cs)) (hN : ¬ Own m' ρ' g) (hi : ∀ (j : Nat) (p : PV) (v : Value), cs[j]? = some p → Rep M w m ρ p v → Im w (Mine M' m' ρ') (seen0 m p) v) : Rep M' w m' ρ' (.cad ((cs.map (seen0 m)).drop i)) (.pointer (some ⟨g, i, none⟩)) := by
  obtain ⟨g', e, hc⟩ := h.cells_var
  cases e
  have hu : ∀ (j : Nat) (p : PV), ((cs.map (seen0 m)).drop i)[j]? = some p → w.cell? ((⟨g, i, none⟩ : Addr).add j) = some ((w.cell? ((⟨g, i, none⟩ : Addr).add j)).getD undef) ∧ ((w.cell? ((⟨g, i, none⟩ : Addr).add j)).getD undef).oneCell' = true ∧ Im w (Mine M' m' ρ') p ((w.cell? ((⟨g, i, none⟩ : Addr).add j)).getD undef) := by
    intro j p hj
    rw [List.getElem?_drop, List.getElem?_map] at hj
    obtain ⟨q, hq, rfl⟩ := Option.map_eq_some_iff.1 hj
    obtain ⟨u, h1, h2, h3⟩ := hc _ q hq
    rw [add_none, Nat.zero_add] at h1
    rw [add_none, h1]
    exact ⟨rfl, h2, hi _ q u hq h3⟩
  exact .cad (fun j => (w.cell? ((⟨g, i, none⟩ : Addr).add j)).getD undef) (fun j p hj => ⟨(hu j p hj).1, hN, (hu j p hj).2.1⟩) (fun j p hj => (hu j p hj).2.2)
/-- What is handed to a call. -/
theorem Inv.seen (h : Inv c tm m ρ a w) {bs : List Nat} {p : PV} {v : Value} (hp : Rep c.M w m ρ p v) (hb : ∀ b ∈ ids p, b ∈ bs ∧ ∀ cs, m[b]? = some (.var cs) → ∀ b' ∈ idss cs, b' ∈ bs) : Rep (Mine c.M (frzM bs m 0 m) ρ) w [] ρ' (V.seen m p) v := by
  have hno : ∀ k, ¬ Own ([] : Mem) ρ' k := by
    rintro k ⟨b, ⟨x, hx, _⟩, _⟩
    simp at hx
  have hsub : ∀ k, Mine (Mine c.M (frzM bs m 0 m) ρ) [] ρ' k → Mine c.M (frzM bs m 0 m) ρ k := by
    rintro k (hk | hk)
    · exact hk
    · exact absurd hk (hno k)
  unfold V.seen
  refine hp.tr _ _ _ _ _ (fun b => b ∈ bs ∧ ∀ cs, m[b]? = some (.var cs) → ∀ b' ∈ idss cs, b' ∈ bs) hb (fun p v hi => hi.sub (fun k hk => mine_frz (hsub k hk))) (fun b e es hI hm => ?_) (fun b l hh v e es hI hm hr => ?_) (fun b i g cs hI hm hg => ?_) (fun b i j g n cc sz e es hI hm hi hs hg => ?_) (fun cs v hc => hc.cad_sub (fun k hk => absurd hk (hno k)) (fun k hk => mine_frz (hsub k hk)))
  · simp only [hm]
    exact .im (Rep.im_own h.blk hm (fun k hk hn => h.frz_out hm (List.contains_iff_mem.2 hI.1) hk (hsub k hn)) (fun k hk => mine_frz (hsub k hk)))
  · simp only [hm]
    exact .im (Rep.im_osl h.blk hm hr (fun k hk hn => h.frz_out hm (List.contains_iff_mem.2 hI.1) hk (hsub k hn)) (fun k hk => mine_frz (hsub k hk)))
  · simp only [hm]
    have hok := h.blk b _ hm
    rw [hg] at hok
    refine hok.cad_deep (hno g) (fun j q v hq hv => ?_)
    have hr : Rep (Mine c.M (frzM bs m 0 m) ρ) w [] ρ' (seen0 m q) v := by
      unfold seen0
      refine hv.tr _ _ _ _ _ (fun b => b ∈ bs) (fun b hb => hI.2 _ hm b (mem_idss hq hb)) (fun p v hi => hi.sub (fun k hk => mine_frz (hsub k hk))) (fun b e es hI hm => ?_) (fun b l hh v e es hI hm hr => ?_) (fun b i g cs hI hm hg => .im .any) (fun b i j g n cc sz e es hI hm hi hs hg => .im .any) (fun cs v hc => .im .any)
      · simp only [hm]
        exact .im (Rep.im_own h.blk hm (fun k hk hn => h.frz_out hm (List.contains_iff_mem.2 hI) hk (hsub k hn)) (fun k hk => mine_frz (hsub k hk)))
      · simp only [hm]
        exact .im (Rep.im_osl h.blk hm hr (fun k hk hn => h.frz_out hm (List.contains_iff_mem.2 hI) hk (hsub k hn)) (fun k hk => mine_frz (hsub k hk)))
    exact hr.pure (pure_seen0 m q)
  · have hx : es[i]? = some es[i] := List.getElem?_eq_getElem hi
    simp only [hm, hx]
    have hok := h.blk b _ hm
    rw [hg] at hok
    exact hok.cad hx hs (hno g) (fun k hk => mine_frz (hsub k hk))
end
end Go.V
