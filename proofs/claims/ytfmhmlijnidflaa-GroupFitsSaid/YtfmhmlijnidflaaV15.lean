import Derived.Test.YtfmhmlijnidflaaV14
import Derived.RangeFuncRecord
set_option linter.unusedVariables false
set_option linter.unusedSimpArgs false
namespace Go.V
open Go
/-- A range over a function under way: the function's start, others' blocks, the iterator's two variables, the record, the block for deferred calls, the temporaries at the statement and what is told of them. -/
structure Rg where
  P : Program
  w0 : World
  S0 : Nat → Prop
  M0 : Nat → Prop
  b1 : Nat
  b2 : Nat
  lr : Nat
  D : Nat
  tmps : Array Value
  tm : Tm
  fn : FuncId
  p : Tmp
  as : Code
  bd : Code
def Rg.MB (g : Rg) (k : Nat) : Prop := g.M0 k ∨ k = g.b1 ∨ k = g.b2
def Rg.lp (g : Rg) (st : LoopState) (pe : Option Code) : Loop := { state := st, pending := pe, fn := g.fn, tmps := g.tmps, params := #[g.p], assign := g.as, body := g.bd, defers := g.D }
def slotOk : PV → Bool
  | .adr _ _ => true
  | .val x => okB x
  | .any => true
  | _ => false
def slotsOk : Tm → Bool
  | [] => true
  | (_, p) :: l => slotOk p && slotsOk l
def nocT : Tm → Bool
  | [] => true
  | (_, p) :: l => noc p && nocT l
theorem nocT_get : ∀ {tm : Tm}, nocT tm = true → ∀ t, noc (get tm t) = true
  | [], _, _ => rfl
  | (k, p) :: l, h, t => by
    rw [nocT, Bool.and_eq_true] at h
    rw [get]
    split
    · exact h.1
    · exact nocT_get h.2 t
theorem slotsOk_get : ∀ {tm : Tm}, slotsOk tm = true → ∀ t, slotOk (get tm t) = true
  | [], _, _ => rfl
  | (k, p) :: l, h, t => by
    rw [slotsOk, Bool.and_eq_true] at h
    rw [get]
    split
    · exact h.1
    · exact slotsOk_get h.2 t
theorem slotOk_noc {p : PV} (h : slotOk p = true) : noc p = true := by cases p <;> first | rfl | (simp [slotOk] at h)
structure Rg.Ok (g : Rg) : Prop where
  ne : g.b1 ≠ g.b2
  n1 : ¬ g.M0 g.b1
  n2 : ¬ g.M0 g.b2
  lr : g.M0 g.lr
  D : g.M0 g.D
  lrD : g.lr ≠ g.D
  f1 : g.w0.heap.size ≤ g.b1
  f2 : g.w0.heap.size ≤ g.b2
  flr : g.w0.heap.size ≤ g.lr
  fD : g.w0.heap.size ≤ g.D
  sl : slotsOk g.tm = true
  pN : g.p < g.tmps.size
structure Cal (g : Rg) (m : Mem) (ρ : Nat → Value) (W : World) : Prop where
  mem : MemOk g.P g.MB W m ρ
  noc : nocM m = true
  tm : ∀ t, Rep g.MB W m ρ (get g.tm t) (g.tmps.getD t undef)
  df : W.heap[g.D]? = some (.deferred (some []))
  fr : Fr g.S0 g.w0 W
  new : ∀ b k, Live m b → own1 (ρ b) = some k → g.w0.heap.size ≤ k ∨ g.S0 k
  lt : ∀ k, g.MB k → k < W.heap.size
/-- What turns no more than the iterator's variables and the record turns nothing of the caller's. -/
theorem Cal.move {g : Rg} (hg : g.Ok) {m : Mem} {ρ : Nat → Value} {W W' : World} {S : Nat → Prop} (h : Cal g m ρ W) (hf : Fr S W W') (hS : ∀ k, S k → k = g.b1 ∨ k = g.b2 ∨ k = g.lr) : Cal g m ρ W' := by
  have hM : ∀ k, S k → g.MB k := fun k hk => by
    rcases hS k hk with h | h | h
    · exact .inr (.inl h)
    · exact .inr (.inr h)
    · subst h; exact .inl hg.lr
  refine ⟨h.mem.stayM hf.mv hM h.noc, h.noc, fun t => (h.tm t).stayM (hf.mv.mono fun k hk => .inl (hM k hk)) (slotOk_noc (slotsOk_get hg.sl t)), ?_, ?_, h.new, fun k hk => Nat.lt_of_lt_of_le (h.lt k hk) hf.size⟩
  · refine (hf.block g.D (h.lt _ (.inl hg.D)) fun hh => ?_).trans h.df
    rcases hS _ hh with e | e | e
    · exact hg.n1 (e ▸ hg.D)
    · exact hg.n2 (e ▸ hg.D)
    · exact hg.lrD e.symm
  · refine h.fr.step hf.os hf.tape hf.output hf.size fun k hk _ => hf.block k (Nat.lt_of_lt_of_le hk h.fr.size) fun hh => ?_
    have h1 := hg.f1; have h2 := hg.f2; have h3 := hg.flr
    rcases hS _ hh with e | e | e <;> omega
theorem fr_put {g : Rg} {W : World} (o : Obj) : Fr (fun k => k = g.lr) W (W.putObj g.lr o) :=
  ⟨rfl, rfl, rfl, by simp [World.putObj], fun k _ hk => World.putObj_heap_other hk⟩
/-- The memory at a round's end, counted anew from the slots that stay. -/
def back (tm : Tm) (m : Mem) (Y : Mem → Prop) : Prop :=
  renT (pos 0 (reach 0 m (vals tm))) false tm = tm ∧ nocM (canonM 0 m (reach 0 m (vals tm)) false) = true ∧ Y (canonM 0 m (reach 0 m (vals tm)) false)
def KR (tm : Tm) (Y Z : Mem → Prop) : KF := fun e _ m => match e with
  | .normal => back tm m Y
  | .ret => back tm m Z
  | _ => False
theorem KR_pan {kd : Nat → Bool} {tm : Tm} {Y Z : Mem → Prop} : PanK kd (KR tm Y Z) := fun v tm m d _ h => h
theorem get_renT' (σ : Nat → Option Nat) (kc : Bool) : ∀ (tm : Tm) (t : Nat), get (renT σ kc tm) t = V.ren σ kc (get tm t)
  | [], _ => rfl
  | (k, p) :: l, t => by
    rw [renT, get, get]
    split
    · rfl
    · exact get_renT' σ kc l t
theorem back_sound {g : Rg} (hg : g.Ok) {m m2 : Mem} {ρA ρ2 : Nat → Value} {WB WC : World} {N n np : Nat} {kd : Nat → Bool} {D : List Deferred} {t2 : Tm} {a2 : Act} {Y : Mem → Prop}
    (ht : ∀ t, Rep g.MB WB m ρA (get g.tm t) (g.tmps.getD t undef)) (hn : n = m.length)
    (h : Inv ⟨g.P, g.MB, WB, Own m ρA, N, n, np, m, ρA, D, kd⟩ t2 m2 ρ2 a2 WC) (hb : back g.tm m2 Y) :
    ∃ m3 ρ3, Y m3 ∧ nocM m3 = true ∧ MemOk g.P g.MB WC m3 ρ3 ∧ (∀ t, Rep g.MB WC m3 ρ3 (get g.tm t) (g.tmps.getD t undef)) ∧ ∀ k, Own m3 ρ3 k → Own m2 ρ2 k := by
  obtain ⟨h1, h2, h3⟩ := hb
  obtain ⟨r1, r2⟩ := reach_spec 0 m2 (vals g.tm)
  obtain ⟨q1, q2, _⟩ := MemOk.canon h.mem (H := fun _ => False) r1 (fun b hb => hb.elim)
  have eM : (fun k => g.MB k ∨ ∃ b, False ∧ own1 (ρ2 b) = some k) = g.MB := by funext k; simp
  simp only [eM] at q1 q2
  refine ⟨_, _, h3, h2, q1, fun t => ?_, ?_⟩
  · have e : V.ren (pos 0 (reach 0 m2 (vals g.tm))) false (get g.tm t) = get g.tm t := by rw [← get_renT', h1]
    suffices key : Rep g.MB WC m2 ρ2 (get g.tm t) (g.tmps.getD t undef) by
      have := q2 _ _ key
      rwa [e] at this
    have h4 := ht t
    have h5 := slotsOk_get hg.sl t
    generalize get g.tm t = p at h4 h5
    generalize g.tmps.getD t undef = v at h4
    cases p <;> first | (simp [slotOk] at h5; done) | skip
    · obtain rfl := h4.val_eq
      exact .im (.val h5)
    · exact .im .any
    · rename_i b o
      cases h4 with
      | im h => cases h
      | adr hb hp =>
        have h6 := h.ft.var b _ (by show b < n; rw [hn]; exact lt_of_get hb) hb
        exact .adr h6.2.choose_spec (h6.1.trans hp)
  · rintro k ⟨d, ⟨y, hy, hyd⟩, hk⟩
    obtain ⟨x, hx, hxd, _⟩ := canon_at (Nat.zero_le _) hy hyd
    exact ⟨_, ⟨x, hx, hxd⟩, hk⟩
theorem slots_keep {M : Nat → Prop} {P : Program} {tm : Tm} {tmps : Array Value} (hsl : slotsOk tm = true) {m m2 : Mem} {ρA ρ2 : Nat → Value} {WB WC : World} {N n np : Nat} {kd : Nat → Bool} {D : List Deferred} {t2 : Tm} {a2 : Act}
    (ht : ∀ t, Rep M WB m ρA (get tm t) (tmps.getD t undef)) (hn : n = m.length) (h : Inv ⟨P, M, WB, Own m ρA, N, n, np, m, ρA, D, kd⟩ t2 m2 ρ2 a2 WC) (t : Nat) : Rep M WC m2 ρ2 (get tm t) (tmps.getD t undef) := by
  have h4 := ht t
  have h5 := slotsOk_get hsl t
  generalize get tm t = p at h4 h5
  generalize tmps.getD t undef = v at h4
  cases p <;> first | (simp [slotOk] at h5; done) | skip
  · obtain rfl := h4.val_eq
    exact .im (.val h5)
  · exact .im .any
  · rename_i b o
    cases h4 with
    | im h => cases h
    | adr hb hp =>
      have h6 := h.ft.var b _ (by show b < n; rw [hn]; exact lt_of_get hb) hb
      exact .adr h6.2.choose_spec (h6.1.trans hp)
theorem Fr.trans' {S S' T : Nat → Prop} {w w1 w2 : World} (h : Fr S w w1) (g : Fr S' w1 w2) (hS : ∀ k, S k → T k) (hS' : ∀ k, k < w.heap.size → S' k → T k) : Fr T w w2 :=
  ⟨g.os.trans h.os, g.tape.trans h.tape, g.output.trans h.output, Nat.le_trans h.size g.size, fun k hk hT => (g.block k (Nat.lt_of_lt_of_le hk h.size) fun hh => hT (hS' k hk hh)).trans (h.block k hk fun hh => hT (hS k hh))⟩
/-- How a round ends. -/
def Ended (g : Rg) (Y Z : Mem → Prop) (m : Mem) (ρ : Nat → Value) (W : World) (e : Ending) (W' : World) : Prop :=
  ∃ m2 ρ2, Cal g m2 ρ2 W' ∧ Fr (fun k => Own m ρ k ∨ k = g.lr) W W' ∧ (∀ k, Own m2 ρ2 k → W.heap.size ≤ k ∨ Own m ρ k) ∧
    ((e = .returned (.bool true) ∧ Y m2 ∧ W'.heap[g.lr]? = some (.loop (g.lp .ready none))) ∨ (e = .returned (.bool false) ∧ Z m2 ∧ W'.heap[g.lr]? = some (.loop (g.lp .done (some .ret)))))
theorem round_ok {g : Rg} (hm : g.P.follows .mixedOrders = true) (hg : g.Ok) {Y Z : Mem → Prop} {lent : FuncId → Bool} {live : Nat → List Nat} {tr : Nat → Option (Tr × List Nat)} {n : Nat}
    (hA : okCode g.tmps.size (fun _ => true) tr g.as = true) (hA2 : ndCode g.as = true) (hB : okCode g.tmps.size (fun _ => true) tr g.bd = true) (hB2 : ndCode g.bd = true)
    {m : Mem} {ρ : Nat → Value} {W : World} {v : Value} {run : List (List PV)} (hc : Cal g m ρ W) (hl : W.heap[g.lr]? = some (.loop (g.lp .ready none))) (hv : Im W (Mine g.MB m ρ) (.sl run) v)
    (hs : execC g.P 0 lent m.length live tr g.as (onlyN fun t' m' => m' = m ∧ nocT t' = true ∧ execC g.P 0 lent m.length live tr g.bd (KR g.tm Y Z) t' m') (put g.tm (some g.p) (.sl run)) m) :
    RoundIn Fence.wide n g.P g.lr g.fn (g.tmps.setIfInBounds g.p v) g.as g.bd W (Ended g Y Z m ρ W) := by
  have hlrM : g.MB g.lr := .inl hg.lr
  have hDM : g.MB g.D := .inl hg.D
  have nO : ∀ {k}, g.MB k → ¬ Own m ρ k := fun hk ⟨b, hb, hk'⟩ => hc.mem.out b _ hb hk' hk
  have h0 := mkInv (a := { tmps := g.tmps.setIfInBounds g.p v, defers := [] }) (tm := put g.tm (some g.p) (.sl run)) hc.lt hc.mem (fun t => by
    rw [get_put]
    by_cases e : g.p = t
    · subst e; rw [if_pos rfl, Array.getD_eq_getD_getElem?, Array.getElem?_setIfInBounds_self_of_lt hg.pN]; exact .im hv
    · rw [if_neg e, Array.getD_eq_getD_getElem?, Array.getElem?_setIfInBounds_ne e, ← Array.getD_eq_getD_getElem?]; exact hc.tm t) m.length 0 (Nat.le_refl _) (fun _ => true)
  have hs0 : (g.tmps.setIfInBounds g.p v).size = g.tmps.size := by simp
  refine roundIn_of_wpIn trivial (Go.wpIn_mono (execC_in hm onlyN_pan (by show okCode (g.tmps.setIfInBounds g.p v).size _ _ _ = true; rw [hs0]; exact hA) hA2 hs h0) fun e a1 W1 hq => ?_)
  cases e with
  | exit id => obtain ⟨_, _, _, h1, _⟩ := hq; exact h1.elim
  | ret => obtain ⟨_, _, _, h1, _⟩ := hq; exact h1.elim
  | goto l => exact hq.elim
  | outgrown => exact hq.elim
  | panic ch => obtain ⟨v, _, _, _, _, h1, _⟩ := hq; exact h1.elim
  | normal =>
  obtain ⟨t1, m1, ρ1, ⟨rfl, hn1, hs1⟩, h1⟩ := hq
  have hltr := hc.lt _ hlrM
  have hl1 : W1.heap[g.lr]? = some (.loop (g.lp .ready none)) := (h1.fr.block g.lr hltr (nO hlrM)).trans hl
  refine ⟨_, run_beginRound hl1 rfl, ?_⟩
  have hp1 : Fr (fun k => k = g.lr) W1 (W1.putObj g.lr (.loop { g.lp .ready none with state := .busy })) := fr_put _
  have hl2 : (W1.putObj g.lr (.loop { g.lp .ready none with state := .busy })).heap[g.lr]? = some (.loop { g.lp .ready none with state := .busy }) := World.putObj_heap_same (Nat.lt_of_lt_of_le hltr h1.fr.size)
  generalize W1.putObj g.lr (.loop { g.lp .ready none with state := .busy }) = W2 at hp1 hl2
  have hO1 : ∀ k, Own m1 ρ1 k → W.heap.size ≤ k ∨ Own m1 ρ k := fun k ⟨b, hb, hk⟩ => h1.new b k hb hk
  have hlM : ∀ k, k = g.lr → g.MB k := fun k hk => hk ▸ hlrM
  have hm2 : MemOk g.P g.MB W2 m1 ρ1 := h1.mem.stayM hp1.mv hlM hc.noc
  have ht2 : ∀ t, Rep g.MB W2 m1 ρ1 (get t1 t) (a1.tmps.getD t undef) := fun t => (h1.tm t).stayM (hp1.mv.mono fun k hk => .inl (hlM k hk)) (nocT_get hn1 t)
  have hg2 : ∀ t, Rep g.MB W2 m1 ρ1 (get g.tm t) (g.tmps.getD t undef) := fun t => (slots_keep hg.sl hc.tm rfl h1 t).stayM (hp1.mv.mono fun k hk => .inl (hlM k hk)) (slotOk_noc (slotsOk_get hg.sl t))
  have hlt2 : ∀ k, g.MB k → k < W2.heap.size := fun k hk => Nat.lt_of_lt_of_le (hc.lt k hk) (Nat.le_trans h1.fr.size hp1.size)
  have hsz : a1.tmps.size = g.tmps.size := h1.sz.trans hs0
  have h2 := mkInv (a := a1) hlt2 hm2 ht2 m1.length 0 (Nat.le_refl _) (fun _ => true)
  refine Go.wpIn_mono (execC_in hm KR_pan (by show okCode a1.tmps.size _ _ _ = true; rw [hsz]; exact hB) hB2 hs1 h2) fun e a3 W3 hq => ?_
  have nO1 : ∀ {k}, g.MB k → ¬ Own m1 ρ1 k := fun hk ⟨b, hb, hk'⟩ => hm2.out b _ hb hk' hk
  have fin : ∀ {t3 : Tm} {m3 : Mem} {ρ3 : Nat → Value} {V : Mem → Prop} (o : Obj), back g.tm m3 V → Inv ⟨g.P, g.MB, W2, Own m1 ρ1, a1.tmps.size, m1.length, 0, m1, ρ1, a1.defers, fun _ => true⟩ t3 m3 ρ3 a3 W3 →
      W3.heap[g.lr]? = some (.loop { g.lp .ready none with state := .busy }) ∧ ∃ m4 ρ4, V m4 ∧ Cal g m4 ρ4 (W3.putObj g.lr o) ∧ Fr (fun k => Own m1 ρ k ∨ k = g.lr) W (W3.putObj g.lr o) ∧ (∀ k, Own m4 ρ4 k → W.heap.size ≤ k ∨ Own m1 ρ k) ∧ (W3.putObj g.lr o).heap[g.lr]? = some o := by
    intro t3 m3 ρ3 V o hb h3
    have hltr2 : g.lr < W2.heap.size := hlt2 _ hlrM
    have hl3 : W3.heap[g.lr]? = some (.loop { g.lp .ready none with state := .busy }) := (h3.fr.block g.lr hltr2 (nO1 hlrM)).trans hl2
    obtain ⟨m4, ρ4, hV, hn4, hmem4, ht4, hO4⟩ := back_sound hg hg2 rfl h3 hb
    have hF : Fr (fun k => Own m1 ρ k ∨ k = g.lr) W W3 := (h1.fr.trans' (T := fun k => Own m1 ρ k ∨ k = g.lr) hp1 (fun k hk => .inl hk) (fun k _ hk => .inr hk)).trans' h3.fr (fun k hk => hk) (fun k hk hO => by
      rcases hO1 k hO with h | h
      · have hk2 : k < W.heap.size := hk
        omega
      · exact .inl h)
    have hO : ∀ k, Own m4 ρ4 k → W.heap.size ≤ k ∨ Own m1 ρ k := fun k hk => by
      obtain ⟨b, hb, hk'⟩ := hO4 k hk
      rcases h3.new b k hb hk' with h | h
      · have e1 : W.heap.size ≤ W1.heap.size := h1.fr.size
        have e2 := hp1.size
        have e3 : W2.heap.size ≤ k := h
        exact .inl (by omega)
      · exact hO1 k h
    have hcal : Cal g m4 ρ4 W3 := by
      refine ⟨hmem4, hn4, ht4, (hF.block g.D (hc.lt _ hDM) fun hh => ?_).trans hc.df, ?_, fun b k hb hk => ?_, fun k hk => Nat.lt_of_lt_of_le (hc.lt k hk) hF.size⟩
      · rcases hh with hh | hh
        · exact nO hDM hh
        · exact hg.lrD hh.symm
      · refine hc.fr.step hF.os hF.tape hF.output hF.size fun k hk hS => hF.block k (Nat.lt_of_lt_of_le hk hc.fr.size) fun hh => ?_
        rcases hh with ⟨b, hb, hk'⟩ | hh
        · rcases hc.new b k hb hk' with h | h
          · omega
          · exact hS h
        · have := hg.flr; omega
      · rcases hO k ⟨b, hb, hk⟩ with h | ⟨b', hb', hk'⟩
        · have := hc.fr.size; exact .inl (by omega)
        · exact hc.new b' k hb' hk'
    exact ⟨hl3, m4, ρ4, hV, hcal.move hg (fr_put o) (fun k hk => .inr (.inr hk)), hF.trans' (fr_put o) (fun k hk => hk) (fun k _ hk => .inr hk), hO, World.putObj_heap_same (Nat.lt_of_lt_of_le hltr2 h3.fr.size)⟩
  cases e with
  | exit id => obtain ⟨_, _, _, h1, _⟩ := hq; exact h1.elim
  | goto l => exact hq.elim
  | outgrown => exact hq.elim
  | panic ch => obtain ⟨v, _, _, _, _, h1, _⟩ := hq; exact h1.elim
  | normal =>
    obtain ⟨t3, m3, ρ3, hb, h3⟩ := hq
    obtain ⟨hl3, m4, ρ4, hV, hcal, hF, hO, hl4⟩ := fin (.loop { { g.lp .ready none with state := .busy } with state := if (none : Option Code).isNone then .ready else .done, pending := none }) hb h3
    exact ⟨_, _, run_endRound none hl3, m4, ρ4, hcal, hF, hO, .inl ⟨rfl, hV, hl4⟩⟩
  | ret =>
    obtain ⟨t3, m3, ρ3, hb, h3⟩ := hq
    obtain ⟨hl3, m4, ρ4, hV, hcal, hF, hO, hl4⟩ := fin (.loop { { g.lp .ready none with state := .busy } with state := if (some Code.ret).isNone then .ready else .done, pending := some .ret }) hb h3
    exact ⟨_, _, run_endRound (some .ret) hl3, m4, ρ4, hcal, hF, hO, .inr ⟨rfl, hV, hl4⟩⟩
end Go.V
