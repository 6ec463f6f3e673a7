import Derived.Test.YtfmhmlijnidflaaV9
set_option linter.unusedVariables false
set_option linter.unusedSimpArgs false
namespace Go.V
open Go
theorem atLeast_get {n : Nat} : ∀ {l : List Nat}, atLeast n l = true → ∀ b ∈ l, n ≤ b
  | x :: l, h, b, hb => by
    simp only [atLeast, Bool.and_eq_true, decide_eq_true_eq] at h
    rcases List.mem_cons.1 hb with rfl | hb
    · exact h.1
    · exact atLeast_get h.2 b hb
theorem alive_get {P : Program} : ∀ {es : List Nat} {j0 : Nat} {m m' : Mem}, alive P j0 es m m' = true → ∀ {j b : Nat}, es[j]? = some b → (∃ cs cs', m[b]? = some (.var cs) ∧ m'[j0 + j]? = some (.var cs')) ∨ ∃ e x x', m[b]? = some (.row e x) ∧ m'[j0 + j]? = some (.row e x')
  | b0 :: es, j0, m, m', h, j, b, hj => by
    simp only [alive, Bool.and_eq_true] at h
    cases j with
    | zero =>
      simp at hj; subst hj
      have h1 := h.1
      split at h1
      · rename_i cs cs' e1 e2; exact .inl ⟨cs, cs', e1, e2⟩
      · rename_i e x e' x' e1 e2
        have : e = e' := by simpa using h1
        subst this
        exact .inr ⟨e, x, x', e1, e2⟩
      · cases h1
    | succ j =>
      have := alive_get h.2 (j := j) (b := b) (by simpa using hj)
      rwa [Nat.add_assoc, Nat.add_comm 1 j] at this
theorem setAll_length : ∀ (l : List (Nat × Blk)) (m : Mem), (setAll m l).length = m.length
  | [], m => rfl
  | (b, x) :: l, m => by rw [setAll, setAll_length l]; simp
theorem setAll_not : ∀ (l : List (Nat × Blk)) (m : Mem) (c : Nat), (∀ q ∈ l, q.1 ≠ c) → (setAll m l)[c]? = m[c]?
  | [], m, c, _ => rfl
  | (b, x) :: l, m, c, h => by
    rw [setAll, setAll_not l _ c (fun q hq => h q (List.mem_cons_of_mem _ hq)), List.getElem?_set_ne (h _ List.mem_cons_self)]
theorem setAll_at : ∀ (es : List Nat) (xs : List Blk) (m : Mem) (j b : Nat) (x : Blk), es.Nodup → es[j]? = some b → xs[j]? = some x → b < m.length → (setAll m (es.zip xs))[b]? = some x
  | b0 :: es, x0 :: xs, m, 0, b, x, hn, hb, hx, hl => by
    simp at hb hx; subst hb; subst hx
    rw [List.zip_cons_cons, setAll, setAll_not, List.getElem?_set_self hl]
    rintro ⟨c, y⟩ hq e
    simp only at e; subst e
    exact (List.nodup_cons.1 hn).1 (List.of_mem_zip hq).1
  | b0 :: es, x0 :: xs, m, j + 1, b, x, hn, hb, hx, hl => by
    rw [List.zip_cons_cons, setAll]
    exact setAll_at es xs _ j b x (List.nodup_cons.1 hn).2 (by simpa using hb) (by simpa using hx) (by simpa using hl)
  | [], xs, m, j, b, x, hn, hb, hx, hl => by simp at hb
  | b0 :: es, [], m, j, b, x, hn, hb, hx, hl => by simp at hx
theorem wipeAllM_length : ∀ (l : List Nat) (m : Mem), (wipeAllM m l).length = m.length
  | [], m => rfl
  | b :: l, m => by rw [wipeAllM, wipeAllM_length l, wipeM_length]
/-- Wiped of several places. -/
def wipes : List Nat → PV → PV
  | [], p => p
  | b :: l, p => wipes l (wipe1 b p)
theorem wipeAllT_get : ∀ (l : List Nat) (tm : Tm) (t : Nat), get (wipeAllT tm l) t = wipes l (get tm t)
  | [], tm, t => rfl
  | b :: l, tm, t => by rw [wipeAllT, wipeAllT_get l, get_wipeT, wipes]
theorem wipeAllM_get : ∀ (l : List Nat) (m : Mem) (c : Nat), (wipeAllM m l)[c]? = (m[c]?).map fun
    | .var cs => .var (cs.map (wipes l))
    | x => x
  | [], m, c => by
    rw [wipeAllM]
    cases m[c]? with
    | none => rfl
    | some x => cases x <;> simp [wipes]
  | b :: l, m, c => by
    rw [wipeAllM, wipeAllM_get l, wipeM_get]
    cases m[c]? with
    | none => rfl
    | some x => cases x <;> simp [wipes]
theorem wipes_any : ∀ l : List Nat, wipes l .any = .any
  | [] => rfl
  | b :: l => by rw [wipes, wipe1, tr, wipes_any l]
theorem wipes_own : ∀ (l : List Nat) (b : Nat), wipes l (.own b) = if b ∈ l then .any else .own b
  | [], b => by simp [wipes]
  | c :: l, b => by
    rw [wipes, wipe1, tr]
    by_cases h : b = c
    · subst h; rw [if_pos rfl, wipes_any, if_pos (by simp)]
    · rw [if_neg h, wipes_own l b]; simp [h]
theorem wipes_osl : ∀ (l : List Nat) (b x y : Nat), wipes l (.osl b x y) = if b ∈ l then .any else .osl b x y
  | [], b, x, y => by simp [wipes]
  | c :: l, b, x, y => by
    rw [wipes, wipe1, tr]
    by_cases h : b = c
    · subst h; rw [if_pos rfl, wipes_any, if_pos (by simp)]
    · rw [if_neg h, wipes_osl l b]; simp [h]
theorem wipes_ead : ∀ (l : List Nat) (b x y : Nat), wipes l (.ead b x y) = if b ∈ l then .any else .ead b x y
  | [], b, x, y => by simp [wipes]
  | c :: l, b, x, y => by
    rw [wipes, wipe1, tr]
    by_cases h : b = c
    · subst h; rw [if_pos rfl, wipes_any, if_pos (by simp)]
    · rw [if_neg h, wipes_ead l b]; simp [h]
theorem wipes_adr : ∀ (l : List Nat) (b x : Nat), wipes l (.adr b x) = .adr b x
  | [], b, x => rfl
  | c :: l, b, x => by rw [wipes, wipe1, tr, wipes_adr l]
theorem wipes_cad : ∀ (l : List Nat) (x : List PV), wipes l (.cad x) = .cad x
  | [], x => rfl
  | c :: l, x => by rw [wipes, wipe1, tr, wipes_cad l]
theorem wipes_agg : ∀ (l : List Nat) (x : List PV), wipes l (.agg x) = .agg (x.map (wipes l))
  | [], x => by simp [wipes]
  | c :: l, x => by rw [wipes, wipe1, tr, trs_map, wipes_agg l, List.map_map]; rfl
theorem wipes_tup : ∀ (l : List Nat) (x : List PV), wipes l (.tup x) = .tup (x.map (wipes l))
  | [], x => by simp [wipes]
  | c :: l, x => by rw [wipes, wipe1, tr, trs_map, wipes_tup l, List.map_map]; rfl
theorem wipes_fn (f : FuncId) : ∀ (l : List Nat) (x : List PV), wipes l (.fn f x) = .fn f (x.map (wipes l))
  | [], x => by simp [wipes]
  | c :: l, x => by rw [wipes, wipe1, tr, trs_map, wipes_fn f l, List.map_map]; rfl
theorem Im.wipes_eq {w : World} {N : Nat → Prop} {p : PV} {v : Value} (h : Im w N p v) : ∀ l : List Nat, wipes l p = p
  | [] => rfl
  | b :: l => by rw [wipes, wipe1, h.tr_eq, h.wipes_eq l]
section
variable {c : Cx} {P : Program} {M M2 : Nat → Prop} {w w' : World} {tm : Tm} {m m' m2 : Mem} {ρ ρ' ρ2 : Nat → Value} {a : Act}
/-- The same thing behind a call, but for what is wiped. -/
theorem Rep.wiped {ds : List Nat} {p : PV} {v : Value} (h : Rep M w m ρ p v) (hm : Mv (Own m ρ) w w') (hO : ∀ k, k < w.heap.size → Own m2 ρ2 k → Own m ρ k) (hN : ∀ k, k < w.heap.size → Mine M2 m2 ρ2 k → Mine M m ρ k)
    (hr : ∀ b e es, b ∉ ds → m[b]? = some (.row e es) → ρ2 b = ρ b ∧ ∃ e' es', m2[b]? = some (.row e' es') ∧ es'.length = es.length ∧ ∀ sz, (∀ x ∈ es, x.length = sz) → ∀ x ∈ es', x.length = sz)
    (hv : ∀ b cs, m[b]? = some (.var cs) → ρ2 b = ρ b ∧ ∃ cs', m2[b]? = some (.var cs')) : Rep M2 w' m2 ρ2 (wipes ds p) v := by
  induction h with
  | im h => rw [h.wipes_eq]; exact .im (h.move hm.mine hN)
  | own h =>
    rw [wipes_own]
    split
    · exact .im .any
    · rename_i hd
      obtain ⟨h1, _, _, h2, _⟩ := hr _ _ _ hd h; rw [← h1]; exact .own h2
  | osl0 h hl hg =>
    rw [wipes_osl]
    split
    · exact .im .any
    · rename_i hd
      obtain ⟨h1, _, _, h2, h3, _⟩ := hr _ _ _ hd h; exact .osl0 h2 (by omega) (h1.trans hg)
  | osl h h0 hl hh hc hx hs hg =>
    rw [wipes_osl]
    split
    · exact .im .any
    · rename_i hd
      obtain ⟨h1, _, _, h2, h3, h4⟩ := hr _ _ _ hd h; exact .osl h2 h0 hl (by omega) hc hx (h4 _ hs) ⟨hg.1, h1.trans hg.2.1, hg.2.2⟩
  | adr h hg => rw [wipes_adr]; obtain ⟨h1, _, h2⟩ := hv _ _ h; exact .adr h2 (h1.trans hg)
  | ead h hi hs hg =>
    rw [wipes_ead]
    split
    · exact .im .any
    · rename_i hd
      obtain ⟨h1, _, _, h2, h3, h4⟩ := hr _ _ _ hd h; exact .ead h2 (by omega) (h4 _ hs) (h1.trans hg)
  | cad u h hi => rw [wipes_cad]; exact (Rep.cad u h hi).cad_move hm hO hN
  | agg hl _ h1 ih =>
    rw [wipes_agg]
    refine .agg (by simpa using hl) (fun i p v hp hv => ?_) h1
    rw [List.getElem?_map] at hp
    obtain ⟨q, hq, rfl⟩ := Option.map_eq_some_iff.1 hp
    exact ih i q v hq hv
  | tup hl _ ih =>
    rw [wipes_tup]
    refine .tup (by simpa using hl) (fun i p v hp hv => ?_)
    rw [List.getElem?_map] at hp
    obtain ⟨q, hq, rfl⟩ := Option.map_eq_some_iff.1 hp
    exact ih i q v hq hv
  | fn hl _ ih =>
    rw [wipes_fn]
    refine .fn (by simpa using hl) (fun i p v hp hv => ?_)
    rw [List.getElem?_map] at hp
    obtain ⟨q, hq, rfl⟩ := Option.map_eq_some_iff.1 hp
    exact ih i q v hq hv
theorem nodup_at {l : List Nat} (hn : l.Nodup) {i j b : Nat} (hi : l[i]? = some b) (hj : l[j]? = some b) : i = j := by
  have l1 := lt_of_get hi
  have l2 := lt_of_get hj
  rw [List.getElem?_eq_getElem l1] at hi
  rw [List.getElem?_eq_getElem l2] at hj
  exact nodup_inj hn l1 l2 ((Option.some.inj hi).trans (Option.some.inj hj).symm)
theorem lentTo_nodup (m : Mem) (ps : List PV) : (lentTo m ps).Nodup := by
  obtain ⟨h1, _⟩ := dd_spec (idss ps) [] (by simp)
  exact (dd_spec (cellIds m (dd [] (idss ps))) _ h1).1
variable {d : Option Tmp} {ty : TypeId} {pos' : String} {af : Array Edge} {g : Option (Nat × Bool)} {k : Tm → Mem → Prop} {Q : Exit → Act → World → Prop}
theorem s_callM (h : Inv c tm m ρ a w) (hd : ∀ t, d = some t → t < c.N) {f : FuncId} {fo : Operand} {caps : List PV} {args : Array Operand} {ts : Array TypeId} (he : ev tm fo = .fn f caps) (hs : callM c.P c.np tm m d k f (args.toList.map (ev tm) ++ caps)) : Oper.wp c.P ⟨d, .call { callee := .value fo, args := args, argTypes := ts }, ty, pos', af, g⟩ a w (Then c k) Q := by
  obtain ⟨cv, hfo, hlen, hargs⟩ := fn_args h he args
  generalize hps : args.toList.map (ev tm) ++ caps = ps at hs hlen hargs
  obtain ⟨hnp, hcall⟩ := hs
  have hb := hcall.1
  have hnd := lentTo_nodup m ps
  generalize hes : lentTo m ps = es at hnp hcall hnd
  generalize hnpl : (dd [] (idss ps)).length = np at hnp hcall
  have hn0 : 0 ≤ m.length := Nat.zero_le _
  generalize hmf : canonM 0 m es true = mf at hcall
  have hor : ∀ (j b : Nat), es[j]? = some b → orig 0 es j = b := fun j b hj => by
    unfold orig; rw [if_neg (by omega), Nat.sub_zero, List.getD_eq_getElem?_getD, hj]; rfl
  have hmfg : ∀ j : Nat, mf[j]? = (es[j]?).map fun b => renB (pos 0 es) true (m[b]?.getD .dead) := fun j => by
    rw [← hmf, canonM_get hn0, if_neg (by omega), Nat.sub_zero]
  have hmfl : mf.length = es.length := by rw [← hmf]; simp [canonM]
  let ρf : Nat → Value := fun j => ρ (orig 0 es j)
  let Mf : Nat → Prop := fun k => c.M k ∨ ∃ b, Live m b ∧ b ∉ es ∧ own1 (ρ b) = some k
  have hflive : ∀ j, Live mf j → ∃ b : Nat, es[j]? = some b ∧ Live m b := by
    rintro j ⟨y, hy, hyd⟩
    rw [hmfg] at hy
    obtain ⟨b, hb, rfl⟩ := Option.map_eq_some_iff.1 hy
    refine ⟨b, hb, ?_⟩
    cases hmb : m[b]? with
    | none => rw [hmb] at hyd; exact absurd rfl hyd
    | some x => rw [hmb] at hyd; exact ⟨x, hmb, renB_dead hyd⟩
  have hOf : ∀ k, Own mf ρf k → ∃ (j b : Nat), es[j]? = some b ∧ Live m b ∧ own1 (ρ b) = some k := by
    rintro k ⟨j, hj, hk⟩
    obtain ⟨b, hb, hl⟩ := hflive j hj
    refine ⟨j, b, hb, hl, ?_⟩
    simp only [ρf, hor j b hb] at hk; exact hk
  have hOf' : ∀ k, Own mf ρf k → Own m ρ k := fun k hk => let ⟨_, b, _, h1, h2⟩ := hOf k hk; ⟨b, h1, h2⟩
  have hNf : ∀ k, Mine Mf mf ρf k → Mine c.M m ρ k := by
    rintro k ((hM | ⟨b, h1, _, h2⟩) | ho)
    · exact .inl hM
    · exact .inr ⟨b, h1, h2⟩
    · exact .inr (hOf' k ho)
  have fr1 : ∀ b d e es', V.pos 0 es b = some d → m[b]? = some (.row e es') → mf[d]? = some (.row e es') ∧ ρf d = ρ b := by
    intro b d e es' h1 h2
    obtain ⟨h3, h4⟩ := pos_at (kc := true) hn0 h1 h2
    exact ⟨by rw [← hmf]; exact h3, by simp only [ρf, h4]⟩
  have fv1 : ∀ b d cs, V.pos 0 es b = some d → m[b]? = some (.var cs) → (∃ cs', mf[d]? = some (.var cs')) ∧ ρf d = ρ b := by
    intro b d cs h1 h2
    obtain ⟨h3, h4⟩ := pos_at (kc := true) hn0 h1 h2
    exact ⟨⟨_, by rw [← hmf]; exact h3⟩, by simp only [ρf, h4]⟩
  have hc := Does.run hcall (M := Mf) (w := w) (vs := args.map a.eval ++ cv) (ρ := ρf) (fun k hk => by
    rcases hk with hM | ⟨b, hb, _, hk⟩
    · have := h.old k hM; have := h.fr.size; omega
    · exact h.lt hb hk) ⟨fun j y hy => ?blk, fun j j' k hj hj' hk hk' => ?sep, fun j k hj hk => ?out⟩ (by simpa using hlen) (fun i p v hp hv => by
    rw [List.getElem?_map] at hp
    obtain ⟨x, hx, rfl⟩ := Option.map_eq_some_iff.1 hp
    exact (hargs i x v hx hv).ren (.inr hNf) (fun _ => ⟨hOf', hNf⟩) fr1 fv1)
  case blk =>
    rw [hmfg] at hy
    obtain ⟨b, hb, rfl⟩ := Option.map_eq_some_iff.1 hy
    have : ρf j = ρ b := by simp only [ρf, hor j b hb]
    rw [this]
    cases hmb : m[b]? with
    | none => exact .dead
    | some x => exact (h.blk b x hmb).ren (.inr hNf) (fun _ => ⟨hOf', hNf⟩) fr1 fv1
  case sep =>
    obtain ⟨b, hb, hl⟩ := hflive j hj
    obtain ⟨b', hb', hl'⟩ := hflive j' hj'
    simp only [ρf, hor j b hb] at hk
    simp only [ρf, hor j' b' hb'] at hk'
    have := h.sep b b' k hl hl' hk hk'
    subst this
    exact nodup_at hnd hb hb'
  case out =>
    obtain ⟨b, hb, hl⟩ := hflive j hj
    simp only [ρf, hor j b hb] at hk
    rintro (hM | ⟨b', hl', hn', hk'⟩)
    · exact h.out hl hk hM
    · have := h.sep b b' k hl hl' hk hk'
      subst this
      exact hn' (List.mem_of_getElem? hb)
  unfold Oper.wp
  rw [enter_run hfo hb w, Oper.upon_enter]
  refine hc.mono fun e w' he => ?_
  obtain ⟨v, r, m', ρ', rfl, ⟨hal, hq⟩, hf, hrep, hmem, hft, hnew⟩ := he
  show Then c k (a.put d v) w'
  generalize hL : m.length = L at hq
  have hm'l : es.length ≤ m'.length := by rw [← hmfl]; exact hft.len
  generalize hm3 : setAll (wipeAllM m (es.drop np)) (es.zip (m'.map (renB (backN es L) false))) ++ (m'.drop es.length).map (renB (backN es L) false) = m3 at hq
  have esL : ∀ (j b : Nat), es[j]? = some b → b < L := fun j b hj => by
    rcases alive_get hal hj with ⟨_, _, h1, _⟩ | ⟨_, _, _, h1, _⟩ <;> (rw [← hL]; exact lt_of_get h1)
  have hsl : (setAll (wipeAllM m (es.drop np)) (es.zip (m'.map (renB (backN es L) false)))).length = L := by rw [setAll_length, wipeAllM_length, hL]
  let ρ3 : Nat → Value := fun b => match es.idxOf? b with
    | some j => ρ' j
    | none => if b < L then ρ b else ρ' (es.length + (b - L))
  have idx_in : ∀ (j b : Nat), es[j]? = some b → es.idxOf? b = some j := fun j b hj => by
    cases hx : es.idxOf? b with
    | none => rw [List.idxOf?_eq_none_iff] at hx; exact absurd (List.mem_of_getElem? hj) hx
    | some i => rw [nodup_at hnd (idxOf?_get es b i hx) hj]
  have r_in : ∀ (j b : Nat), es[j]? = some b → ρ3 b = ρ' j := fun j b hj => by simp only [ρ3, idx_in j b hj]
  have idx_out : ∀ b, b ∉ es → es.idxOf? b = none := fun b hb => List.idxOf?_eq_none_iff.2 hb
  have r_old : ∀ b, b ∉ es → b < L → ρ3 b = ρ b := fun b hb hl => by simp only [ρ3, idx_out b hb, if_pos hl]
  have r_new : ∀ i, ρ3 (L + i) = ρ' (es.length + i) := fun i => by
    have : L + i ∉ es := fun hm => by
      obtain ⟨j, hj⟩ := List.getElem?_of_mem hm
      have := esL j _ hj; omega
    simp only [ρ3, idx_out _ this]
    rw [if_neg (by omega), Nat.add_sub_cancel_left]
  have g_in : ∀ (j b : Nat) (y : Blk), es[j]? = some b → m'[j]? = some y → m3[b]? = some (renB (backN es L) false y) := fun j b y hj hy => by
    have hb := esL j b hj
    rw [← hm3, List.getElem?_append_left (by rw [hsl]; exact hb)]
    exact setAll_at es _ _ j b _ hnd hj (by rw [List.getElem?_map, hy]; rfl) (by rw [wipeAllM_length, hL]; exact hb)
  have g_old : ∀ b, b ∉ es → b < L → m3[b]? = (m[b]?).map fun
    | .var cs => .var (cs.map (wipes (es.drop np)))
    | x => x := fun b hb hl => by
    rw [← hm3, List.getElem?_append_left (by rw [hsl]; exact hl), setAll_not _ _ b (fun q hq e => hb (by rw [← e]; exact (List.of_mem_zip (show (q.1, q.2) ∈ _ from hq)).1)), wipeAllM_get]
  have g_new : ∀ i, m3[L + i]? = (m'[es.length + i]?).map (renB (backN es L) false) := fun i => by
    rw [← hm3, List.getElem?_append_right (by rw [hsl]; omega), hsl, Nat.add_sub_cancel_left, List.getElem?_map, List.getElem?_drop]
  -- where a live place of m3 comes from
  have from3 : ∀ b, Live m3 b → (b ∉ es ∧ b < L ∧ Live m b ∧ ρ3 b = ρ b) ∨ ∃ i : Nat, Live m' i ∧ ρ3 b = ρ' i ∧ ((es[i]? = some b) ∨ ∃ q, i = es.length + q ∧ b = L + q) := by
    rintro b ⟨y, hy, hyd⟩
    by_cases hbe : b ∈ es
    · obtain ⟨j, hj⟩ := List.getElem?_of_mem hbe
      have hjl : j < m'.length := by have := lt_of_get hj; omega
      have hy' := g_in j b _ hj (List.getElem?_eq_getElem hjl)
      rw [hy] at hy'
      cases hy'
      exact .inr ⟨j, ⟨_, List.getElem?_eq_getElem hjl, renB_dead hyd⟩, r_in j b hj, .inl hj⟩
    · by_cases hl : b < L
      · rw [g_old b hbe hl] at hy
        obtain ⟨x, hx, rfl⟩ := Option.map_eq_some_iff.1 hy
        exact .inl ⟨hbe, hl, ⟨x, hx, fun e => by subst e; exact hyd rfl⟩, r_old b hbe hl⟩
      · obtain ⟨q, rfl⟩ : ∃ q, b = L + q := ⟨b - L, by omega⟩
        rw [g_new] at hy
        obtain ⟨x, hx, rfl⟩ := Option.map_eq_some_iff.1 hy
        exact .inr ⟨es.length + q, ⟨x, hx, renB_dead hyd⟩, r_new q, .inr ⟨q, rfl, rfl⟩⟩
  have hO3 : ∀ k, k < w.heap.size → Own m3 ρ3 k → Own m ρ k := by
    rintro k hk ⟨b, hb, hbk⟩
    rcases from3 b hb with ⟨_, _, h1, h2⟩ | ⟨i, h1, h2, _⟩
    · rw [h2] at hbk; exact ⟨b, h1, hbk⟩
    · rw [h2] at hbk
      rcases hnew i k h1 hbk with h3 | h3
      · omega
      · exact hOf' k h3
  have hN3 : ∀ k, k < w.heap.size → Mine c.M m3 ρ3 k → Mine c.M m ρ k := fun k hk h => h.imp id (hO3 k hk)
  have hmv : Mv (Own m ρ) w w' := hf.mv.mono hOf'
  have hNb : ∀ k, Mine c.M m3 ρ3 k → Mine Mf m' ρ' k := by
    rintro k (hM | ⟨b, hb, hbk⟩)
    · exact .inl (.inl hM)
    · rcases from3 b hb with ⟨h0, _, h1, h2⟩ | ⟨i, h1, h2, _⟩
      · rw [h2] at hbk; exact .inl (.inr ⟨b, h1, h0, hbk⟩)
      · rw [h2] at hbk; exact .inr ⟨i, h1, hbk⟩
  have hrow : ∀ (j b : Nat) (e : TypeId) (es0 : List (List PV)), es[j]? = some b → m[b]? = some (.row e es0) → ∃ es1, m'[j]? = some (.row e es1) ∧ m3[b]? = some (.row e es1) := by
    intro j b e es0 hj hm
    rcases alive_get hal hj with ⟨_, _, h1, _⟩ | ⟨e', x, x', h1, h2⟩
    · rw [hm] at h1; cases h1
    · rw [hm] at h1; cases h1
      rw [Nat.zero_add] at h2
      exact ⟨x', h2, g_in j b _ hj h2⟩
  have hr3 : ∀ b e es0, b ∉ es.drop np → m[b]? = some (.row e es0) → ρ3 b = ρ b ∧ ∃ e' es', m3[b]? = some (.row e' es') ∧ es'.length = es0.length ∧ ∀ sz, (∀ x ∈ es0, x.length = sz) → ∀ x ∈ es', x.length = sz := by
    intro b e es0 hbd hm
    by_cases hbe : b ∈ es
    · obtain ⟨j, hj⟩ := List.getElem?_of_mem hbe
      have hjnp : j < np := by
        rcases Nat.lt_or_ge j np with h1 | h1
        · exact h1
        · refine absurd ?_ hbd
          have : (es.drop np)[j - np]? = some b := by rw [List.getElem?_drop, ← hj]; congr 1; omega
          exact List.mem_of_getElem? this
      obtain ⟨es1, h1, h2⟩ := hrow j b e es0 hj hm
      have hjl := lt_of_get hj
      have hmfj : mf[j]? = some (.row e es0) := by rw [hmfg, hj, Option.map_some, hm]; rfl
      have hρ : ρ' j = ρ b := by
        rcases hft.row j e es0 (by simp only [hmfl]; exact hjl) hmfj with h3 | ⟨h3, _⟩
        · rw [h1] at h3; cases h3
        · rw [h3 hjnp]; simp only [ρf, hor j b hj]
      refine ⟨(r_in j b hj).trans hρ, e, es1, h2, ?_⟩
      have hk1 := hmem.blk j _ h1
      have hk0 := h.blk b _ hm
      rw [hρ] at hk1
      generalize ρ b = vb at hk0 hk1
      cases hk0 with
      | row hi hz hzs h0 hby hlen ho hs hfl hx h1' =>
        cases hk1 with
        | row hi2 hz2 hzs2 h02 hby2 hlen2 ho2 hs2 hfl2 hx2 h12 =>
          rw [hi] at hi2; cases hi2
          have hle : es1.length = es0.length := by
            rcases ho.2 with ⟨e1, e2⟩ | ⟨g, cap, cur, e1, _⟩ <;> rcases ho2.2 with ⟨e3, e4⟩ | ⟨g', cap', cur', e3, _⟩
            · omega
            · rw [e1] at e3; cases e3
            · rw [e1] at e3; cases e3
            · rw [e1] at e3; injection e3 with _ e5 _; exact e5.symm
          refine ⟨hle, fun sz hsz x hxm => ?_⟩
          cases es0 with
          | nil => have hnil : es1 = [] := List.eq_nil_of_length_eq_zero hle
                   subst hnil; cases hxm
          | cons y l => rw [hs2 x hxm, ← hs y List.mem_cons_self, hsz y List.mem_cons_self]
    · have hlt : b < L := by rw [← hL]; exact lt_of_get hm
      exact ⟨r_old b hbe hlt, e, es0, by rw [g_old b hbe hlt, hm]; rfl, rfl, fun _ h => h⟩
  have hv3 : ∀ b cs, m[b]? = some (.var cs) → ρ3 b = ρ b ∧ ∃ cs', m3[b]? = some (.var cs') := by
    intro b cs hm
    by_cases hbe : b ∈ es
    · obtain ⟨j, hj⟩ := List.getElem?_of_mem hbe
      have hmfj : mf[j]? = some (.var (cs.map (V.ren (V.pos 0 es) true))) := by rw [hmfg, hj, Option.map_some, hm]; rfl
      obtain ⟨h1, cs', h2⟩ := hft.var j _ (by simp only [hmfl]; exact lt_of_get hj) hmfj
      exact ⟨by rw [r_in j b hj, h1]; simp only [ρf, hor j b hj], _, g_in j b _ hj h2⟩
    · have hlt : b < L := by rw [← hL]; exact lt_of_get hm
      exact ⟨r_old b hbe hlt, _, by rw [g_old b hbe hlt, hm]; rfl⟩
  have back_at : ∀ i d, backN es L i = some d → i < m'.length → (es[i]? = some d) ∨ ∃ q, i = es.length + q ∧ d = L + q := by
    intro i d hbk _
    unfold backN at hbk
    split at hbk
    · exact .inl hbk
    · simp only [Option.some.injEq] at hbk
      exact .inr ⟨i - es.length, by omega, by omega⟩
  have sr : ∀ i d e x, backN es L i = some d → m'[i]? = some (.row e x) → m3[d]? = some (.row e x) ∧ ρ3 d = ρ' i := by
    intro i d e x h1 h2
    rcases back_at i d h1 (lt_of_get h2) with h3 | ⟨q, rfl, rfl⟩
    · exact ⟨g_in i d _ h3 h2, r_in i d h3⟩
    · exact ⟨by rw [g_new, h2]; rfl, r_new q⟩
  have sv : ∀ i d cs, backN es L i = some d → m'[i]? = some (.var cs) → (∃ cs', m3[d]? = some (.var cs')) ∧ ρ3 d = ρ' i := by
    intro i d cs h1 h2
    rcases back_at i d h1 (lt_of_get h2) with h3 | ⟨q, rfl, rfl⟩
    · exact ⟨⟨_, g_in i d _ h3 h2⟩, r_in i d h3⟩
    · exact ⟨⟨_, by rw [g_new, h2]; rfl⟩, r_new q⟩
  have hrep3 : ∀ p v, Rep c.M w m ρ p v → Rep c.M w' m3 ρ3 (wipes (es.drop np) p) v := fun p v hp => hp.wiped hmv hO3 hN3 hr3 hv3
  have hsz : c.w0.heap.size ≤ w.heap.size := h.fr.size
  have keepB : ∀ b, b ∉ es → Live m b → ∀ k, own1 (ρ b) = some k → k < w.heap.size → w'.heap[k]? = w.heap[k]? := fun b hb hl k hk hlt => hf.block k hlt fun ho => by
    obtain ⟨j, b', h1, h2, h3⟩ := hOf k ho
    obtain rfl := h.sep b b' k hl h2 hk h3
    exact hb (List.mem_of_getElem? h1)
  have base : Inv c (wipeAllT tm (es.drop np)) m3 ρ3 a w' := by
    refine ⟨h.sz, h.df, fun t => by rw [wipeAllT_get]; exact hrep3 _ _ (h.tm t), fun b y hy => ?_, fun b b' k hb hb' hk hk' => ?_, fun b k hb hk => ?_, h.fr.step hf.os hf.tape hf.output hf.size (fun k hk hS => hf.block k (by omega) fun ho => ?_), h.old, h.dis, ?_⟩
    · by_cases hyd : y = .dead
      · subst hyd; exact .dead
      rcases from3 b ⟨y, hy, hyd⟩ with ⟨hbe, hl, hlive, hρ⟩ | ⟨i, hlive, hρ, hor'⟩
      · rw [g_old b hbe hl] at hy
        obtain ⟨x, hx, rfl⟩ := Option.map_eq_some_iff.1 hy
        have hok := h.blk b x hx
        have hkb := keepB b hbe hlive
        rw [hρ]
        generalize ρ b = vb at hok hkb
        cases x with
        | dead => exact .dead
        | var cs =>
          cases hok with
          | var hgv hl' hj h1v =>
            refine .var ((hkb _ rfl (Array.getElem?_eq_some_iff.1 hgv).1).trans hgv) (by simpa using hl') (fun j p v hp hv => ?_) h1v
            rw [List.getElem?_map] at hp
            obtain ⟨q, hq, rfl⟩ := Option.map_eq_some_iff.1 hp
            exact hrep3 _ _ (hj j q v hq hv)
        | row e es' =>
          cases hok with
          | row hinf hz hzs h0 hby hlen ho hsz hfl hx h1 =>
            exact .row hinf hz hzs h0 hby hlen (ownsRow_move ho hkb) hsz hfl (fun q j x p hq hj => let ⟨u, h2, h3⟩ := hx q j x p hq hj; ⟨u, h2, h3.move hmv.mine hN3⟩) h1
      · obtain ⟨x, hx, hxd⟩ := hlive
        have hy3 : m3[b]? = some (renB (backN es L) false x) := by
          rcases hor' with h3 | ⟨q, rfl, rfl⟩
          · exact g_in i b x h3 hx
          · rw [g_new, hx]; rfl
        rw [hy] at hy3
        cases hy3
        rw [hρ]
        exact (hmem.blk i x hx).ren (.inr hNb) (fun e => by cases e) sr sv
    · rcases from3 b hb with ⟨h1, h2, h3, h4⟩ | ⟨i, h3, h4, h5⟩ <;> rcases from3 b' hb' with ⟨h1', h2', h3', h4'⟩ | ⟨i', h3', h4', h5'⟩
      · rw [h4] at hk; rw [h4'] at hk'; exact h.sep b b' k h3 h3' hk hk'
      · rw [h4] at hk; rw [h4'] at hk'
        exact absurd (.inr ⟨b, h3, h1, hk⟩) (hmem.out i' k h3' hk')
      · rw [h4] at hk; rw [h4'] at hk'
        exact absurd (.inr ⟨b', h3', h1', hk'⟩) (hmem.out i k h3 hk)
      · rw [h4] at hk; rw [h4'] at hk'
        have := hmem.sep i i' k h3 h3' hk hk'
        subst this
        rcases h5 with h5 | ⟨q, e1, rfl⟩ <;> rcases h5' with h5' | ⟨q', e1', rfl⟩
        · rw [h5] at h5'; exact Option.some.inj h5'
        · have := lt_of_get h5; omega
        · have := lt_of_get h5'; omega
        · omega
    · rcases from3 b hb with ⟨_, _, h3, h4⟩ | ⟨i, h3, h4, _⟩
      · rw [h4] at hk; exact h.new b k h3 hk
      · rw [h4] at hk
        rcases hnew i k h3 hk with h5 | h5
        · exact .inl (by omega)
        · obtain ⟨j, b', _, h6, h7⟩ := hOf k h5
          exact h.new b' k h6 h7
    · obtain ⟨j, b', _, h6, h7⟩ := hOf k ho
      rcases h.new b' k h6 h7 with h8 | h8
      · omega
      · exact hS h8
    · have hlen3 : L ≤ m3.length := by rw [← hm3, List.length_append, hsl]; omega
      have hn := h.ft.len
      refine ⟨by omega, fun b cs hb hm => ?_, fun b e es0 hb hm => ?_, fun b hb hm => ?_⟩
      · obtain ⟨h1, cs', h2⟩ := h.ft.var b cs hb hm
        obtain ⟨h3, h4⟩ := hv3 b cs' h2
        exact ⟨h3.trans h1, h4⟩
      · rcases h.ft.row b e es0 hb hm with h1 | ⟨h1, e', es', h2⟩
        · left
          have hbe : b ∉ es := fun hbe => by
            obtain ⟨j, hj⟩ := List.getElem?_of_mem hbe
            rcases alive_get hal hj with ⟨_, _, h3, _⟩ | ⟨_, _, _, h3, _⟩ <;> (rw [h1] at h3; cases h3)
          rw [g_old b hbe (by omega), h1]; rfl
        · right
          by_cases hbd : b ∈ es.drop np
          · have := atLeast_get hnp b hbd
            obtain ⟨j, hj⟩ := List.getElem?_of_mem (List.mem_of_mem_drop hbd)
            obtain ⟨es1, _, h3⟩ := hrow j b e' es' hj h2
            exact ⟨fun hlt => by omega, e', es1, h3⟩
          · obtain ⟨h3, e2, es2, h4, _⟩ := hr3 b e' es' hbd h2
            exact ⟨fun hlt => h3.trans (h1 hlt), e2, es2, h4⟩
      · have h1 := h.ft.dead b hb hm
        have hbe : b ∉ es := fun hbe => by
          obtain ⟨j, hj⟩ := List.getElem?_of_mem hbe
          rcases alive_get hal hj with ⟨_, _, h3, _⟩ | ⟨_, _, _, h3, _⟩ <;> (rw [h1] at h3; cases h3)
        rw [g_old b hbe (by omega), h1]; rfl
  exact ⟨_, _, _, hq, base.put hd (hrep.ren (.inr hNb) (fun e => by cases e) sr sv)⟩
end
end Go.V
