import Derived.Test.YtfmhmlijnidflaaV17
set_option linter.unusedVariables false
set_option linter.unusedSimpArgs false
namespace Go.V
open Go
section
variable {c : Cx} {P : Program} {M M' : Nat → Prop} {w0 w w' : World} {S : Nat → Prop} {tm : Tm} {m m' : Mem} {ρ ρ' : Nat → Value} {a : Act}
/-! where a block that holds no cells is turned; where less is others' -/
theorem Im.cells {N : Nat → Prop} {p : PV} {v : Value} (h : Im w N p v) (hc : ∀ A u, w.cell? A = some u → w'.cell? A = some u) : Im w' N p v := by
  induction h with
  | val h => exact .val h
  | any => exact .any
  | sl u hn hx hcc hs hA hr ih =>
    refine .sl u hn hx hcc hs ?_ ih
    rcases hA with h | ⟨ad, rfl, h⟩
    · exact .inl h
    · exact .inr ⟨ad, rfl, fun i j e p he hp => ⟨hc _ _ (h i j e p he hp).1, (h i j e p he hp).2⟩⟩
  | agg hl _ h1 ih => exact .agg hl ih h1
  | tup hl _ ih => exact .tup hl ih
  | fn hl _ ih => exact .fn hl ih
theorem Rep.cells {p : PV} {v : Value} (h : Rep M w m ρ p v) (hc : ∀ A u, w.cell? A = some u → w'.cell? A = some u) (hM : ∀ k, M' k → M k) : Rep M' w' m ρ p v := by
  have hN : ∀ k, Mine M' m ρ k → Mine M m ρ k := fun k hk => hk.imp (hM k) id
  induction h with
  | im h => exact .im ((h.cells hc).sub hN)
  | own h => exact .own h
  | osl0 h1 h2 h3 => exact .osl0 h1 h2 h3
  | osl h1 h2 h3 h4 h5 h6 h7 h8 => exact .osl h1 h2 h3 h4 h5 h6 h7 h8
  | adr h1 h2 => exact .adr h1 h2
  | ead h1 h2 h3 h4 => exact .ead h1 h2 h3 h4
  | cad u h1 h2 => exact .cad u (fun j p hp => ⟨hc _ _ (h1 j p hp).1, (h1 j p hp).2⟩) (fun j p hp => ((h2 j p hp).cells hc).sub hN)
  | agg hl _ h1 ih => exact .agg hl ih h1
  | tup hl _ ih => exact .tup hl ih
  | fn hl _ ih => exact .fn hl ih
theorem cell_of_block (hb : ∀ (k : Nat) vs te x, w.heap[k]? = some (.cells vs te x) → w'.heap[k]? = some (.cells vs te x)) : ∀ A u, w.cell? A = some u → w'.cell? A = some u := by
  intro A u h
  have h2 := h
  unfold World.cell? at h
  cases ho : w.heap[A.block]? with
  | none => simp [ho] at h
  | some o =>
    cases o <;> first | (simp [ho] at h; done) | skip
    rename_i vs te x
    have := hb A.block vs te x ho
    unfold World.cell?
    rw [this]
    simpa [ho] using h
theorem MemOk.cells (h : MemOk P M w m ρ) (hb : ∀ (k : Nat) vs te x, w.heap[k]? = some (.cells vs te x) → w'.heap[k]? = some (.cells vs te x)) (hM : ∀ k, M' k → M k) : MemOk P M' w' m ρ := by
  have hc := cell_of_block hb
  refine ⟨fun b x hx => ?_, h.sep, fun b k hl hk hh => h.out b k hl hk (hM k hh)⟩
  have h0 := h.blk b x hx
  generalize ρ b = v at h0
  cases h0 with
  | dead => exact .dead
  | var hg hl hj h1 => exact .var (hb _ _ _ _ hg) hl (fun j p v hp hv' => (hj j p v hp hv').cells hc hM) h1
  | row hi hz hzs h0 hby hlen ho hss hf hxx h1 =>
    refine .row hi hz hzs h0 hby hlen ⟨ho.1, ?_⟩ hss hf (fun q j x p hq hj => let ⟨u, h2, h3⟩ := hxx q j x p hq hj; ⟨u, h2, (h3.cells hc).sub fun k hk => hk.imp (hM k) id⟩) h1
    rcases ho.2 with hn | ⟨g, cap, cur, rfl, h0, hg, rest⟩
    · exact .inl hn
    · exact .inr ⟨g, cap, cur, rfl, h0, hb _ _ _ _ hg, rest⟩
end
def seqs : List Code → Code → Code
  | [], c => c
  | a :: l, c => .seq a (seqs l c)
def chainC (P : Program) (lent : FuncId → Bool) (live : Nat → List Nat) (tr : Nat → Option (Tr × List Nat)) : List Code → (Tm → Mem → Prop) → Tm → Mem → Prop
  | [], k => k
  | a :: l, k => execC P 0 lent 0 live tr a (onlyN (chainC P lent live tr l k))
theorem chain_wp {c : Cx} (hm : c.P.follows .mixedOrders = true) (hn : c.n = 0) (hnp : c.np = 0) {lent : FuncId → Bool} {live : Nat → List Nat} {tr : Nat → Option (Tr × List Nat)} {k : Tm → Mem → Prop} {C : Code} {Q : Exit → Act → World → Prop} {n : Nat} (hC : ∀ a w, Then c k a w → C.wpIn Fence.wide n c.P Q a w) :
    ∀ (As : List Code), As.all (okCode c.N c.kd tr) = true → ∀ (tm : Tm) (m : Mem) (ρ : Nat → Value) (a : Act) (w : World), chainC c.P lent live tr As k tm m → Inv c tm m ρ a w → (seqs As C).wpIn Fence.wide n c.P Q a w
  | [], _, tm, m, ρ, a, w, hs, h => hC a w ⟨tm, m, ρ, hs, h⟩
  | A :: As, hok, tm, m, ρ, a, w, hs, h => by
    rw [List.all_cons, Bool.and_eq_true] at hok
    rw [chainC] at hs
    refine Go.wpIn_seq (piece hm hok.1 (by rw [hn, hnp]; exact hs) h fun a w hq => ?_)
    obtain ⟨tm, m, ρ, hs, h⟩ := hq
    exact chain_wp hm hn hnp hC As hok.2 tm m ρ a w hs h
/-- What is told where the range begins. -/
structure RangeAt (gt : Tmp) (fi cmp : FuncId) (es : List (List PV)) (i1 i2 : Nat) (lv : List Nat) (tmR : Tm) (X0 : Mem → Prop) (tm : Tm) (m : Mem) : Prop where
  g : get tm gt = .fn fi [.adr i1 0, .adr i2 0]
  ne : i1 ≠ i2
  m1 : m[i1]? = some (.var [.sl es])
  m2 : m[i2]? = some (.var [.fn cmp []])
  o1 : (reach 0 m (vals (keep tm lv))).contains i1 = false
  o2 : (reach 0 m (vals (keep tm lv))).contains i2 = false
  r : renT (pos 0 (reach 0 m (vals (keep tm lv)))) false (keep tm lv) = tmR
  noc : nocM (canonM 0 m (reach 0 m (vals (keep tm lv))) false) = true
  x : X0 (canonM 0 m (reach 0 m (vals (keep tm lv))) false)
theorem Inv.adr_val {c : Cx} {tm : Tm} {m : Mem} {ρ : Nat → Value} {a : Act} {w : World} (h : Inv c tm m ρ a w) {b : Nat} {cs : List PV} (hm : m[b]? = some (.var cs)) : ∃ g, ρ b = .pointer (some ⟨g, 0, none⟩) ∧ g < w.heap.size := by
  have := h.blk b _ hm
  generalize ρ b = v at this
  cases this with
  | var hg => exact ⟨_, rfl, (Array.getElem?_eq_some_iff.1 hg).1⟩
/-- The state at the range's first round. -/
theorem range_start {c : Cx} (hS : ∀ k, ¬ c.S k) {tm : Tm} {m : Mem} {ρ : Nat → Value} {a : Act} {w : World} (h : Inv c tm m ρ a w) {gt : Tmp} {fi cmp : FuncId} {es : List (List PV)} {i1 i2 : Nat} {lv : List Nat} {tmR : Tm} {X0 : Mem → Prop} (hr : RangeAt gt fi cmp es i1 i2 lv tmR X0 tm m) (hsl : slotsOk tmR = true) (fn : FuncId) (p : Tmp) (hp : p < a.tmps.size) (as bd : Code) :
    ∃ b1 b2, a.eval (.tmp gt) = .func (.func fi) #[] #[.pointer (some ⟨b1, 0, none⟩), .pointer (some ⟨b2, 0, none⟩)] ∧
      ∀ (g : Rg), g = ⟨c.P, c.w0, c.S, fun k => c.M k ∨ k = w.heap.size + 1 ∨ k = w.heap.size, b1, b2, w.heap.size + 1, w.heap.size, a.tmps, tmR, fn, p, as, bd⟩ →
        g.Ok ∧ ∃ m1 ρ1, X0 m1 ∧ Cal g m1 ρ1 ((w.alloc (.deferred (some []))).alloc (.loop (g.lp .ready none))) ∧ It g cmp es m1 ρ1 ((w.alloc (.deferred (some []))).alloc (.loop (g.lp .ready none))) ∧ ((w.alloc (.deferred (some []))).alloc (.loop (g.lp .ready none))).heap[g.lr]? = some (.loop (g.lp .ready none)) := by
  obtain ⟨b1, p1, l1⟩ := h.adr_val hr.m1
  obtain ⟨b2, p2, l2⟩ := h.adr_val hr.m2
  have v1 : Live m i1 := ⟨_, hr.m1, by simp⟩
  have v2 : Live m i2 := ⟨_, hr.m2, by simp⟩
  have w1 : own1 (ρ i1) = some b1 := by rw [p1]; rfl
  have w2 : own1 (ρ i2) = some b2 := by rw [p2]; rfl
  have hne : b1 ≠ b2 := fun e => hr.ne (h.sep i1 i2 b1 v1 v2 w1 (e ▸ w2))
  refine ⟨b1, b2, ?_, ?_⟩
  · have hg := h.ev (.tmp gt)
    rw [show ev tm (.tmp gt) = get tm gt from rfl, hr.g] at hg
    generalize a.eval (.tmp gt) = v at hg
    cases hg with
    | im hh => cases hh with
      | fn hl hx =>
        rename_i vs
        obtain ⟨l⟩ := vs
        match l, hl with
        | [x, y], _ => cases hx 0 _ x rfl rfl
    | fn hl hx =>
      rename_i vs
      obtain ⟨l⟩ := vs
      match l, hl with
      | [x, y], _ =>
        have h1 := hx 0 _ x rfl rfl
        have h2 := hx 1 _ y rfl rfl
        cases h1 with
        | im hh => cases hh
        | adr _ e1 =>
          cases h2 with
          | im hh => cases hh
          | adr _ e2 =>
            rw [p1] at e1; rw [p2] at e2
            simp at e1 e2
            rw [e1, e2]
  · rintro g rfl
    obtain ⟨r1, r2⟩ := reach_spec 0 m (vals (V.keep tm lv))
    obtain ⟨q1, q2, q3⟩ := MemOk.canon h.mem r1 (fun b => b = i1 ∨ b = i2) (fun b hb => by
      rcases hb with rfl | rfl
      · exact ⟨v1, fun hh => by have := hr.o1; rw [List.contains_iff_mem.2 hh] at this; cases this⟩
      · exact ⟨v2, fun hh => by have := hr.o2; rw [List.contains_iff_mem.2 hh] at this; cases this⟩)
    generalize hm1 : canonM 0 m (reach 0 m (vals (V.keep tm lv))) false = m1 at q1 q2 q3
    generalize hρ1 : (fun d => ρ (orig 0 (reach 0 m (vals (V.keep tm lv))) d)) = ρ1 at q1 q2 q3
    have hrx := hr.x
    have hrn := hr.noc
    rw [hm1] at hrx hrn
    generalize hg : (⟨c.P, c.w0, c.S, fun k => c.M k ∨ k = w.heap.size + 1 ∨ k = w.heap.size, b1, b2, w.heap.size + 1, w.heap.size, a.tmps, tmR, fn, p, as, bd⟩ : Rg) = g
    have eMB : ∀ k, g.MB k ↔ (c.M k ∨ k = w.heap.size + 1 ∨ k = w.heap.size) ∨ k = b1 ∨ k = b2 := fun k => by rw [← hg]; exact Iff.rfl
    have hcM : ∀ k, c.M k → k < w.heap.size := fun k hk => Nat.lt_of_lt_of_le (h.old k hk) h.fr.size
    have f1 : c.w0.heap.size ≤ b1 := (h.new i1 b1 v1 w1).resolve_right (hS _)
    have f2 : c.w0.heap.size ≤ b2 := (h.new i2 b2 v2 w2).resolve_right (hS _)
    have hlr : g.lr = w.heap.size + 1 := by rw [← hg]
    have hDD : g.D = w.heap.size := by rw [← hg]
    have hok : g.Ok := by
      rw [← hg]
      refine ⟨hne, ?_, ?_, .inr (.inl rfl), .inr (.inr rfl), by show w.heap.size + 1 ≠ w.heap.size; omega, f1, f2, by show c.w0.heap.size ≤ w.heap.size + 1; have := h.fr.size; omega, h.fr.size, hsl, hp⟩
      · rintro (hh | hh | hh)
        · exact h.out v1 w1 hh
        · have hh : b1 = w.heap.size + 1 := hh; omega
        · have hh : b1 = w.heap.size := hh; omega
      · rintro (hh | hh | hh)
        · exact h.out v2 w2 hh
        · have hh : b2 = w.heap.size + 1 := hh; omega
        · have hh : b2 = w.heap.size := hh; omega
    obtain ⟨W1, hW1⟩ : ∃ W1, (w.alloc (.deferred (some []))).alloc (.loop (g.lp .ready none)) = W1 := ⟨_, rfl⟩
    have hold : ∀ k, k < w.heap.size → W1.heap[k]? = w.heap[k]? := fun k hk => by
      rw [← hW1, heap_alloc_old _ _ k (by simp; omega)]; exact heap_alloc_old _ _ k hk
    have hsz : W1.heap.size = w.heap.size + 2 := by rw [← hW1]; simp
    have hDh : W1.heap[w.heap.size]? = some (.deferred (some [])) := by
      rw [← hW1, heap_alloc_old _ _ _ (by simp)]; exact World.alloc_heap_new w _
    have hlh : W1.heap[w.heap.size + 1]? = some (.loop (g.lp .ready none)) := by
      rw [← hW1]; have := World.alloc_heap_new (w.alloc (.deferred (some []))) (.loop (g.lp .ready none)); rwa [World.size_alloc] at this
    have hFr : Fr (fun _ => False) w W1 := ⟨by rw [← hW1]; rfl, by rw [← hW1]; rfl, by rw [← hW1]; rfl, by omega, fun k hk _ => hold k hk⟩
    rw [hW1]
    have hN : ∀ k, k < w.heap.size → Mine g.MB m1 ρ1 k → Mine (fun k => c.M k ∨ ∃ b, (b = i1 ∨ b = i2) ∧ own1 (ρ b) = some k) m1 ρ1 k := fun k hk hh => by
      rcases hh with hh | hh
      · rcases (eMB k).1 hh with (hh | hh | hh) | hh | hh
        · exact .inl (.inl hh)
        · omega
        · omega
        · exact .inl (.inr ⟨i1, .inl rfl, by rw [hh]; exact w1⟩)
        · exact .inl (.inr ⟨i2, .inr rfl, by rw [hh]; exact w2⟩)
      · exact .inr hh
    have hmv : Mv (Own m1 ρ1) w W1 := ⟨hFr.size, fun k hk _ => hold k hk⟩
    have hrr : ∀ b e es, m1[b]? = some (.row e es) → ρ1 b = ρ1 b ∧ ∃ e' es', m1[b]? = some (.row e' es') ∧ es'.length = es.length ∧ ∀ sz, (∀ x ∈ es, x.length = sz) → ∀ x ∈ es', x.length = sz := fun b e es hb => ⟨rfl, e, es, hb, rfl, fun _ h => h⟩
    have hvv : ∀ b cs, m1[b]? = some (.var cs) → ρ1 b = ρ1 b ∧ ∃ cs', m1[b]? = some (.var cs') := fun b cs hb => ⟨rfl, cs, hb⟩
    have hP : g.P = c.P := by rw [← hg]
    have hmem : MemOk g.P g.MB W1 m1 ρ1 := by
      rw [hP]
      refine ⟨fun b x hx => (q1.blk b x hx).move (fun k _ hk => hold k hk) hmv (fun _ _ h => h) hN hrr hvv, q1.sep, fun b k hb hk hh => ?_⟩
      have hlt := q1.lt hb hk
      rcases hN k hlt (.inl hh) with hh | _
      · exact q1.out b k hb hk hh
      · rcases (eMB k).1 hh with (hh | hh | hh) | hh | hh
        · exact q1.out b k hb hk (.inl hh)
        · omega
        · omega
        · exact q1.out b k hb hk (.inr ⟨i1, .inl rfl, by rw [hh]; exact w1⟩)
        · exact q1.out b k hb hk (.inr ⟨i2, .inr rfl, by rw [hh]; exact w2⟩)
    have htm : ∀ t, Rep g.MB W1 m1 ρ1 (get g.tm t) (g.tmps.getD t undef) := fun t => by
      rw [show g.tm = tmR by rw [← hg], show g.tmps = a.tmps by rw [← hg], ← hr.r, get_renT']
      exact (q2 _ _ ((h.keep lv).tm t)).move hmv (fun _ _ h => h) hN hrr hvv
    refine ⟨hok, m1, ρ1, hrx, ⟨hmem, hrn, htm, by rw [hDD]; exact hDh, ?_, fun b k hb hk => ?_, fun k hk => ?_⟩, ⟨?_, ?_⟩, by rw [hlr]; exact hlh⟩
    · rw [show g.S0 = c.S by rw [← hg], show g.w0 = c.w0 by rw [← hg]]
      exact h.fr.step hFr.os hFr.tape hFr.output hFr.size (fun k hk _ => hold k (Nat.lt_of_lt_of_le hk h.fr.size))
    · obtain ⟨b', hb', hk'⟩ := q3 k ⟨b, hb, hk⟩
      rw [show g.S0 = c.S by rw [← hg], show g.w0 = c.w0 by rw [← hg]]
      exact h.new b' k hb' hk'
    · rcases (eMB k).1 hk with (hh | hh | hh) | hh | hh
      · have := hcM k hh; omega
      · omega
      · omega
      · omega
      · omega
    · have hb := h.blk i1 _ hr.m1
      rw [p1] at hb
      cases hb with
      | var hg1 hl hj hone =>
        rename_i te vs
        obtain ⟨l⟩ := vs
        match l, hl with
        | [v], _ =>
          have hr := hj 0 _ v rfl rfl
          cases hr with
          | im him =>
            refine ⟨v, te, by rw [show g.b1 = b1 by rw [← hg], hold b1 l1]; exact hg1, hone v (by simp), him.move (⟨hFr.size, fun k hk _ => hold k hk⟩) fun k hk hh => ?_⟩
            rcases hN k hk hh with (hh | ⟨b, hb, hk⟩) | hh
            · exact .inl hh
            · rcases hb with rfl | rfl
              · exact .inr ⟨_, v1, hk⟩
              · exact .inr ⟨_, v2, hk⟩
            · exact .inr (q3 k hh)
    · have hb := h.blk i2 _ hr.m2
      rw [p2] at hb
      cases hb with
      | var hg1 hl hj hone =>
        rename_i te vs
        obtain ⟨l⟩ := vs
        match l, hl with
        | [v], _ =>
          have hr := hj 0 _ v rfl rfl
          have : v = .func (.func cmp) #[] #[] := by
            cases hr with
            | im him => cases him with
              | fn hl' _ => rw [Array.eq_empty_of_size_eq_zero hl'.symm]
            | fn hl' _ => rw [Array.eq_empty_of_size_eq_zero hl'.symm]
          subst this
          exact ⟨te, by rw [show g.b2 = b2 by rw [← hg], hold b2 l2]; exact hg1⟩
end Go.V
