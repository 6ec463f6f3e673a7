import Derived.Test.YtfmhmlijnidflaaV18
set_option linter.unusedVariables false
set_option linter.unusedSimpArgs false
namespace Go.V
open Go
section
variable {P : Program}
theorem okCode_all {n N : Nat} {kd : Nat → Bool} {tr : Nat → Option (Tr × List Nat)} (hn : n ≤ N) : ∀ As : List Code, As.all (okCode n kd tr) = true → As.all (okCode N kd tr) = true
  | [], _ => rfl
  | A :: As, h => by
    rw [List.all_cons, Bool.and_eq_true] at h ⊢
    exact ⟨okCode_mono hn A h.1, okCode_all hn As h.2⟩
/-- A function that ranges over the pieces of a row. -/
theorem does_range {α : Type} {f fi : FuncId} {fn ffn : Func} {As : List Code} {A7 C : Code} {ib2 : Nat} {gt p : Tmp} {as bd : Code} {args : List PV} {Q : PV → Mem → Prop} {i : Itc} {lentI : FuncId → Bool} {liveI : Nat → List Nat} {trI : Nat → Option (Tr × List Nat)} {enc : α → List PV} {c : α → α → Int} {cmp : FuncId}
    (hm : P.follows .mixedOrders = true) (hf : P.funcs[f]? = some fn) (hb : fn.body = some (seqs As (.seq (.seq A7 (.block ib2 (.rangeFunc (.tmp gt) #[p] as bd))) C))) (hname : (fn.name == "runtime.NumGoroutine") = false)
    (tr : Nat → Option (Tr × List Nat)) (lent : FuncId → Bool) (live : Nat → List Nat) (hAs : As.all (okCode fn.ntmps (fun _ => true) tr) = true) (hA7 : okCode fn.ntmps (fun _ => true) tr A7 = true) (hC : okCode fn.ntmps (fun _ => true) tr C = true)
    (has : okCode fn.ntmps (fun _ => true) tr as = true) (has2 : ndCode as = true) (hbd : okCode fn.ntmps (fun _ => true) tr bd = true) (hbd2 : ndCode bd = true) (hp : p < fn.ntmps)
    (hff : P.funcs[fi]? = some ffn) (hfb : ffn.body = some (.block i.ix (.loop i.body))) (hfr : ffn.results = #[]) (hiN : i.N = 3 + (ffn.ntmps - 3)) (heg : ∀ args w, (callFunc fi args).run P w = .ok (.enter fi args) w)
    (hi : i.Ok P lentI liveI trI enc c cmp) {X : List α → Mem → Prop} (tmR : Tm) (hsl : slotsOk tmR = true) {i1 i2 : Nat} {lv : List Nat}
    (HR : ∀ x r m, X (x :: r) m → execC P 0 lent m.length live tr as (onlyN fun t' m' => m' = m ∧ nocT t' = true ∧ execC P 0 lent m.length live tr bd (KR tmR (X (tl c x r)) fun m => resB P tmR m fn.results.toList fun ps => fin 0 m (oneB ps) Q) t' m') (put tmR (some p) (.sl ((hd c x r).map enc))) m)
    (HC : ∀ m, X [] m → execC P 0 lent 0 live tr C (done P 0 fn.results.toList Q) tmR m)
    (hs : chainC P lent live tr As (fun tm m => execC P 0 lent 0 live tr A7 (onlyN fun tm m => ∃ l : List α, l.length ≤ 1000000000 ∧ RangeAt gt fi cmp (l.map enc) i1 i2 lv tmR (X l) tm m) tm m) (number 0 args) []) : Does P f args [] 0 Q := by
  refine ⟨⟨fn, _, hf, hb, hname⟩, fun M w vs ρ hM hmem hlen hr => ?_⟩
  have h0 := Inv.start (P := P) (np := 0) (kd := fun _ => true) hM hmem hlen hr (fn.ntmps - vs.size)
  have hN : fn.ntmps ≤ vs.size + (fn.ntmps - vs.size) := by omega
  refine callsIn_wide.1 (callsIn_of_wp_marks (F := Fence.wide) (n := 2) hf hb trivial ?_)
  refine chain_wp (c := ⟨P, M, w, Own [] ρ, vs.size + (fn.ntmps - vs.size), 0, 0, [], ρ, [], fun _ => true⟩) hm rfl rfl (fun a w1 hq => ?_) As (okCode_all hN As hAs) _ _ _ _ _ hs h0
  obtain ⟨tm1, m1, ρ1, hs1, h1⟩ := hq
  refine Go.wpIn_seq (Go.wpIn_seq (piece (c := ⟨P, M, w, Own [] ρ, vs.size + (fn.ntmps - vs.size), 0, 0, [], ρ, [], fun _ => true⟩) hm (okCode_mono hN A7 hA7) hs1 h1 fun a2 w2 hq => ?_))
  obtain ⟨tm2, m2, ρ2, ⟨l, hl, hra⟩, h2⟩ := hq
  have hsz : a2.tmps.size = vs.size + (fn.ntmps - vs.size) := h2.sz
  have hdf : a2.defers = [] := h2.df
  refine Go.wpIn_block (wpIn_rangeFunc fun fn0 _ => ?_)
  obtain ⟨b1, b2, hev, hst⟩ := range_start (fun k => not_own_nil) h2 hra hsl fn0 p (Nat.lt_of_lt_of_le hp (by rw [hsz]; exact hN)) as bd
  obtain ⟨hg, m3, ρ3, hX, hcal, hit, hlr⟩ := hst _ rfl
  generalize hgg : (⟨P, w, Own [] ρ, fun k => M k ∨ k = w2.heap.size + 1 ∨ k = w2.heap.size, b1, b2, w2.heap.size + 1, w2.heap.size, a2.tmps, tmR, fn0, p, as, bd⟩ : Rg) = g at hg hcal hit hlr
  have gP : g.P = P := by rw [← hgg]
  have gas : g.as = as := by rw [← hgg]
  have gbd : g.bd = bd := by rw [← hgg]
  have gtm : g.tm = tmR := by rw [← hgg]
  have gp : g.p = p := by rw [← hgg]
  have glr : g.lr = w2.heap.size + 1 := by rw [← hgg]
  have gD : g.D = w2.heap.size := by rw [← hgg]
  have gtmps : g.tmps = a2.tmps := by rw [← hgg]
  have gw0 : g.w0 = w := by rw [← hgg]
  have gMB : ∀ k, M k → g.MB k := fun k hk => by rw [← hgg]; exact .inl (.inl hk)
  have gb1 : g.b1 = b1 := by rw [← hgg]
  have gb2 : g.b2 = b2 := by rw [← hgg]
  have hen := run_enterLoop_outer (P := P) (w := w2) fn0 a2.tmps #[p] as bd
  have erec : ({ state := .ready, pending := none, fn := fn0, tmps := a2.tmps, params := #[p], assign := as, body := bd, defers := w2.heap.size } : Loop) = g.lp .ready none := by rw [← hgg]; rfl
  rw [erec] at hen
  obtain ⟨w3, hw3⟩ : ∃ w3, (w2.alloc (.deferred (some []))).alloc (.loop (g.lp .ready none)) = w3 := ⟨_, rfl⟩
  rw [hw3] at hcal hit hlr hen
  refine ⟨w2.heap.size + 1, _, w3, { target := .fn (.func fi) #[.pointer (some ⟨b1, 0, none⟩), .pointer (some ⟨b2, 0, none⟩)], args := #[.func (.yield (w2.heap.size + 1)) #[] #[]] }, w3, fi, #[.func (.yield (w2.heap.size + 1)) #[] #[]] ++ #[.pointer (some ⟨b1, 0, none⟩), .pointer (some ⟨b2, 0, none⟩)], w3, hen, ?_, fun _ _ => trivial, ?_, fun h => (by cases h), ?_⟩
  · simp only [resolve, hev]
    simp [go_sem]
  · simp [invoke, go_sem, heg]
  have hDM : g.MB g.D := .inl hg.D
  have gS0 : ∀ k, ¬ g.S0 k := fun k hk => by rw [← hgg] at hk; exact not_own_nil hk
  have fD : w.heap.size ≤ g.D := by have := hg.fD; rwa [gw0] at this
  have fin' : ∀ {m4 : Mem} {ρ4 : Nat → Value} {w5 : World}, Cal g m4 ρ4 w5 → ∀ {t6 : Tm} {m6 : Mem} {ρ6 : Nat → Value} {a6 : Act} {w6 : World}, Inv ⟨P, g.MB, w5, Own m4 ρ4, a2.tmps.size, 0, 0, m4, ρ4, [{ target := .collected w2.heap.size, args := #[] }], fun _ => true⟩ t6 m6 ρ6 a6 w6 → resB P t6 m6 fn.results.toList (fun ps => fin 0 m6 (oneB ps) Q) →
      LeavesInM Fence.wide 2 P fn a6.tmps (fun e w' => (∃ v r m' ρ', e = .returned v ∧ Q r m' ∧ Fr (Own [] ρ) w w' ∧ Rep M w' m' ρ' r v ∧ MemOk P M w' m' ρ' ∧ Foot ⟨P, M, w, Own [] ρ, 0, ([] : Mem).length, 0, [], ρ, [], fun _ => true⟩ m' ρ' ∧ ∀ b k, Live m' b → own1 (ρ' b) = some k → w.heap.size ≤ k ∨ Own [] ρ k) ∨
        ∃ v, e = .panicked [{ v := v, recovered := false }] ∧ False ∧ Fr (Own [] ρ) w w') a6.defers .returning w6 := by
    intro m4 ρ4 w5 hc5 t6 m6 ρ6 a6 w6 h6 hres
    rw [show a6.defers = [{ target := .collected w2.heap.size, args := #[] }] from h6.df]
    have hD6 : w6.heap[g.D]? = some (.deferred (some [])) := (h6.fr.block g.D (hc5.lt _ hDM) (fun ⟨b, hb, hk⟩ => hc5.mem.out b _ hb hk hDM)).trans hc5.df
    refine ⟨by simp, .inl ⟨g.D, _, by rw [gD], run_takeDeferred hD6, ?_⟩⟩
    have hoth : ∀ k, k ≠ g.D → (w6.putObj g.D (.deferred none)).heap[k]? = w6.heap[k]? := fun k hk => World.putObj_heap_other hk
    have hcells : ∀ (k : Nat) vs te x, w6.heap[k]? = some (.cells vs te x) → (w6.putObj g.D (.deferred none)).heap[k]? = some (.cells vs te x) := fun k vs te x hk => by
      rw [hoth k (fun e => by subst e; rw [hD6] at hk; cases hk)]; exact hk
    have hmem7 : MemOk P M (w6.putObj g.D (.deferred none)) m6 ρ6 := h6.mem.cells hcells gMB
    have s5 : w.heap.size ≤ w5.heap.size := by have := hc5.fr.size; rwa [gw0] at this
    have hnew4 : ∀ k, Own m4 ρ4 k → w.heap.size ≤ k := fun k ⟨b, hb, hk⟩ => by
      have := hc5.new b k hb hk
      rw [gw0] at this
      exact this.resolve_right (gS0 k)
    have h7 : Inv ⟨P, M, w, Own [] ρ, vs.size + (fn.ntmps - vs.size), 0, 0, [], ρ, [], fun _ => true⟩ t6 m6 ρ6 { a6 with defers := [] } (w6.putObj g.D (.deferred none)) := by
      refine ⟨h6.sz.trans hsz, rfl, fun t => (h6.tm t).cells (cell_of_block hcells) gMB, hmem7.blk, hmem7.sep, fun b k hb hk => ?_, ?_, hM, fun k hk => absurd hk not_own_nil, ⟨Nat.zero_le _, fun b cs hb => absurd hb (Nat.not_lt_zero _), fun b e es hb => absurd hb (Nat.not_lt_zero _), fun b hb => absurd hb (Nat.not_lt_zero _)⟩⟩
      · rcases h6.new b k hb hk with h | h
        · exact .inl (Nat.le_trans s5 h)
        · exact .inl (hnew4 k h)
      · have hfr := hc5.fr
        rw [gw0] at hfr
        have e1 : (w6.putObj g.D (.deferred none)).heap.size = w6.heap.size := by simp [World.putObj]
        refine ⟨h6.fr.os.trans hfr.os, h6.fr.tape.trans hfr.tape, h6.fr.output.trans hfr.output, by rw [e1]; exact Nat.le_trans s5 h6.fr.size, fun k hk _ => ?_⟩
        have hk2 : k < w.heap.size := hk
        rw [hoth k (by omega)]
        exact (h6.fr.block k (Nat.lt_of_lt_of_le hk2 s5) (fun hh => by have := hnew4 k hh; omega)).trans (hfr.block k hk2 (gS0 k))
    obtain ⟨ps, v, h3, h4, h5⟩ := results_sound (fn := fn) h7 hres
    obtain ⟨r, m', ρ', q6, q7, q8⟩ := fin_sound h7 h5 h3
    exact ⟨v, h4, .inl ⟨v, r, m', ρ', rfl, q6, h7.fr, q7, ⟨q8.blk, q8.sep, fun b k hb hk => q8.out hb hk⟩, ⟨q8.ft.len, q8.ft.var, q8.ft.row, q8.ft.dead⟩, q8.new⟩⟩
  have start5 : ∀ {m4 : Mem} {ρ4 : Nat → Value} {w5 : World}, Cal g m4 ρ4 w5 → Inv ⟨P, g.MB, w5, Own m4 ρ4, a2.tmps.size, 0, 0, m4, ρ4, [{ target := .collected w2.heap.size, args := #[] }], fun _ => true⟩ tmR m4 ρ4 { a2 with defers := [{ target := .collected w2.heap.size, args := #[] }] ++ a2.defers } w5 := by
    intro m4 ρ4 w5 hc5
    have hmm := hc5.mem
    rw [gP] at hmm
    have := mkInv (a := { a2 with defers := [{ target := .collected w2.heap.size, args := #[] }] ++ a2.defers }) (tm := tmR) hc5.lt hmm (fun t => by have := hc5.tm t; rwa [gtm, gtmps] at this) 0 0 (Nat.zero_le _) (fun _ => true)
    rw [hdf] at this ⊢
    exact this
  refine CallsIn.mono (R := fun e W => ∃ v, e = .returned v ∧ ((∃ m ρ, X [] m ∧ Cal g m ρ W ∧ W.heap[g.lr]? = some (.loop (g.lp .ready none))) ∨ ∃ m ρ, (resB P tmR m fn.results.toList fun ps => fin 0 m (oneB ps) Q) ∧ Cal g m ρ W ∧ W.heap[g.lr]? = some (.loop (g.lp .done (some .ret))))) ?_ ?_
  · have hgt : ∀ (j : Nat) (v : Value), (#[.func (.yield (w2.heap.size + 1)) #[] #[]] ++ #[.pointer (some ⟨b1, 0, none⟩), .pointer (some ⟨b2, 0, none⟩)] : Array Value)[j]? = some v → (#[.func (.yield (w2.heap.size + 1)) #[] #[]] ++ #[.pointer (some ⟨b1, 0, none⟩), .pointer (some ⟨b2, 0, none⟩)] ++ Array.replicate (ffn.ntmps - 3) undef : Array Value).getD j undef = v := fun j v hj => by
      rw [Array.getD_eq_getD_getElem?, Array.getElem?_append_left (Array.getElem?_eq_some_iff.1 hj).1, hj]; rfl
    have hall := iter_all (g := g) (by rw [gP]; exact hm) hg (i := i) (lentI := lentI) (liveI := liveI) (trI := trI) (enc := enc) (c := c) (cmp := cmp) (by rw [gP]; exact hi) (lent := lent) (live := live) (tr := tr) (by rw [gtmps, hsz, gas]; exact okCode_mono hN as has) (by rw [gas]; exact has2) (by rw [gtmps, hsz, gbd]; exact okCode_mono hN bd hbd) (by rw [gbd]; exact hbd2) (X := X) (Z := fun m => resB P tmR m fn.results.toList fun ps => fin 0 m (oneB ps) Q) (by rw [gP, gas, gbd, gtm, gp]; exact HR) l.length l (Nat.le_refl _) hl m3 ρ3 w3 { tmps := #[.func (.yield (w2.heap.size + 1)) #[] #[]] ++ #[.pointer (some ⟨b1, 0, none⟩), .pointer (some ⟨b2, 0, none⟩)] ++ Array.replicate (ffn.ntmps - 3) undef, defers := [] } [(0, .val g.yv), (1, .adr 0 0), (2, .adr 1 0)] hX hcal hlr hit (by simp [hiN]) rfl ⟨rfl, rfl, rfl⟩ (fun t => by
        simp only [get]
        split
        · rename_i e; subst e; rw [hgt 0 _ rfl, ← glr]; exact .inr (.inr (.inr ⟨rfl, rfl⟩))
        · split
          · rename_i e; subst e; rw [hgt 1 _ rfl, ← gb1]; exact .inr (.inl ⟨rfl, rfl⟩)
          · split
            · rename_i e; subst e; rw [hgt 2 _ rfl, ← gb2]; exact .inr (.inr (.inl ⟨rfl, rfl⟩))
            · exact .inl rfl)
    rw [gP] at hall
    refine callsIn_of_wp hff hfb trivial (Go.wpIn_block (Go.wpIn_mono (LoopAt.loop hall) ?_))
    have hres : ∀ (tmps : Array Value) (W : World), (results ffn tmps).run P W = .ok (.tuple #[]) W := fun tmps W => by simp [results, hfr]
    intro e a W hq
    cases e with
    | exit j =>
      obtain ⟨rfl, h1, m, ρ, h2, h3, h4⟩ := hq
      rw [Exit.inBlock, if_pos rfl]
      exact ⟨h1, _, hres _ _, _, rfl, .inl ⟨m, ρ, h2, h3, h4⟩⟩
    | ret =>
      obtain ⟨h1, m, ρ, h2, h3, h4⟩ := hq
      exact ⟨h1, _, hres _ _, _, rfl, .inr ⟨m, ρ, h2, h3, h4⟩⟩
    | normal => exact hq.elim
    | goto l => exact hq.elim
    | panic ch => exact hq.elim
    | outgrown => exact hq.elim
  · rintro e W ⟨v, rfl, ⟨m, ρ', hX5, hc5, hl5⟩ | ⟨m, ρ', hZ5, hc5, hl5⟩⟩
    · have hend := run_endLoop (P := P) hl5 (by simp [Rg.lp])
      rw [glr] at hend
      refine ⟨none, _, hend, ?_⟩
      have hc6 := hc5.move hg (fr_put (.loop { g.lp .ready none with state := .exhausted })) (fun k hk => .inr (.inr hk))
      rw [glr] at hc6
      have h5 := start5 hc6
      refine wpIn_wide.2 (wp_mono (execC_sound (c := ⟨P, g.MB, _, Own m ρ', a2.tmps.size, 0, 0, m, ρ', [{ target := .collected w2.heap.size, args := #[] }], fun _ => true⟩) hm (K := done P 0 fn.results.toList Q) (fun v tm m d _ h => h) (by show okCode a2.tmps.size _ _ _ = true; rw [hsz]; exact okCode_mono hN C hC) (HC m hX5) h5) fun e a6 w6 hq => ?_)
      cases e with
      | normal => obtain ⟨t6, m6, ρ6, q1, q2⟩ := hq; exact fin' hc6 q2 q1
      | ret => obtain ⟨t6, m6, ρ6, q1, q2⟩ := hq; exact fin' hc6 q2 q1
      | exit id => obtain ⟨_, _, _, h1, _⟩ := hq; exact h1.elim
      | goto l => exact hq.elim
      | outgrown => exact hq.elim
      | panic ch => obtain ⟨v, _, _, _, _, h1, _⟩ := hq; exact h1.elim
    · have hend := run_endLoop (P := P) hl5 (by simp [Rg.lp])
      rw [glr] at hend
      refine ⟨some .ret, _, hend, Go.wpIn_ret ?_⟩
      have hc6 := hc5.move hg (fr_put (.loop { g.lp .done (some .ret) with state := .exhausted })) (fun k hk => .inr (.inr hk))
      rw [glr] at hc6
      exact fin' hc6 (start5 hc6) hZ5
end
end Go.V
