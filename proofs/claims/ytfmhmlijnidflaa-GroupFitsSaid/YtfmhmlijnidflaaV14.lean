import Derived.Test.YtfmhmlijnidflaaV13
set_option linter.unusedVariables false
set_option linter.unusedSimpArgs false
namespace Go.V
open Go
/-! memories over worlds that others turn -/
mutual
/-- No pointer to what is only read. -/
def noc : PV → Bool
  | .cad _ => false
  | .agg cs => nocs cs
  | .tup cs => nocs cs
  | .fn _ cs => nocs cs
  | _ => true
def nocs : List PV → Bool
  | [] => true
  | p :: l => noc p && nocs l
end
def nocM : Mem → Bool
  | [] => true
  | .var cs :: l => nocs cs && nocM l
  | .dead :: l => nocM l
  | .row _ _ :: l => nocM l
theorem nocs_get : ∀ {l : List PV} {i : Nat} {p : PV}, nocs l = true → l[i]? = some p → noc p = true
  | q :: l, 0, p, h, hp => by rw [nocs, Bool.and_eq_true] at h; simp at hp; subst hp; exact h.1
  | q :: l, i + 1, p, h, hp => by rw [nocs, Bool.and_eq_true] at h; exact nocs_get h.2 (by simpa using hp)
  | [], i, p, _, hp => by simp at hp
theorem nocM_get : ∀ {l : Mem} {i : Nat} {cs : List PV}, nocM l = true → l[i]? = some (.var cs) → nocs cs = true
  | .var ds :: l, 0, cs, h, hp => by rw [nocM, Bool.and_eq_true] at h; simp at hp; subst hp; exact h.1
  | .dead :: l, 0, cs, h, hp => by simp at hp
  | .row _ _ :: l, 0, cs, h, hp => by simp at hp
  | .var ds :: l, i + 1, cs, h, hp => by rw [nocM, Bool.and_eq_true] at h; exact nocM_get h.2 (by simpa using hp)
  | .dead :: l, i + 1, cs, h, hp => by rw [nocM] at h; exact nocM_get h (by simpa using hp)
  | .row _ _ :: l, i + 1, cs, h, hp => by rw [nocM] at h; exact nocM_get h (by simpa using hp)
  | [], i, cs, _, hp => by simp at hp
section
variable {c : Cx} {P : Program} {M M' : Nat → Prop} {w0 w w' : World} {S : Nat → Prop} {tm : Tm} {m m' : Mem} {ρ ρ' : Nat → Value} {a : Act}
theorem Rep.stayM {p : PV} {v : Value} (h : Rep M w m ρ p v) (hm : Mv (Mine M m ρ) w w') (hn : noc p = true) : Rep M w' m ρ p v := by
  induction h with
  | im h => exact .im (h.move hm fun _ _ h => h)
  | own h => exact .own h
  | osl0 h1 h2 h3 => exact .osl0 h1 h2 h3
  | osl h1 h2 h3 h4 h5 h6 h7 h8 => exact .osl h1 h2 h3 h4 h5 h6 h7 h8
  | adr h1 h2 => exact .adr h1 h2
  | ead h1 h2 h3 h4 => exact .ead h1 h2 h3 h4
  | cad u h1 h2 => rw [noc] at hn; cases hn
  | agg hl _ h1 ih => rw [noc] at hn; exact .agg hl (fun i p v hp hv => ih i p v hp hv (nocs_get hn hp)) h1
  | tup hl _ ih => rw [noc] at hn; exact .tup hl (fun i p v hp hv => ih i p v hp hv (nocs_get hn hp))
  | fn hl _ ih => rw [noc] at hn; exact .fn hl (fun i p v hp hv => ih i p v hp hv (nocs_get hn hp))
theorem MemOk.lt (h : MemOk P M w m ρ) {b k : Nat} (hb : Live m b) (hk : own1 (ρ b) = some k) : k < w.heap.size := by
  obtain ⟨y, hy, hd⟩ := hb
  exact (h.blk b y hy).lt hd hk
/-- What others own is turned alone. -/
theorem MemOk.stayM (h : MemOk P M w m ρ) (hs : Mv S w w') (hS : ∀ k, S k → M k) (hn : nocM m = true) : MemOk P M w' m ρ := by
  have hmv : Mv (Mine M m ρ) w w' := hs.mono fun k hk => .inl (hS k hk)
  have hb : ∀ b k, Live m b → own1 (ρ b) = some k → k < w.heap.size → w'.heap[k]? = w.heap[k]? := fun b k hl hk hlt => hs.block k hlt fun hh => h.out b k hl hk (hS k hh)
  refine ⟨fun b x hx => ?_, h.sep, h.out⟩
  have h0 := h.blk b x hx
  have hbb : x ≠ .dead → ∀ k, own1 (ρ b) = some k → k < w.heap.size → w'.heap[k]? = w.heap[k]? := fun hd k => hb b k ⟨x, hx, hd⟩
  generalize ρ b = v at h0 hbb
  cases h0 with
  | dead => exact .dead
  | var hg hl hj h1 => exact .var ((hbb (by simp) _ rfl (Array.getElem?_eq_some_iff.1 hg).1).trans hg) hl (fun j p v hp hv' => (hj j p v hp hv').stayM hmv (nocs_get (nocM_get hn hx) hp)) h1
  | row hi hz hzs h0 hby hlen ho hss hf hxx h1 =>
    exact .row hi hz hzs h0 hby hlen (ownsRow_move ho (hbb (by simp))) hss hf (fun q j x p hq hj => let ⟨u, h2, h3⟩ := hxx q j x p hq hj; ⟨u, h2, h3.move hmv fun _ _ h => h⟩) h1
theorem Inv.mem (h : Inv c tm m ρ a w) : MemOk c.P c.M w m ρ := ⟨h.blk, h.sep, fun b k hb hk => h.out hb hk⟩
theorem mkInv (hM : ∀ k, M k → k < w.heap.size) (hmem : MemOk P M w m ρ) (ht : ∀ t, Rep M w m ρ (get tm t) (a.tmps.getD t undef)) (n np : Nat) (hn : n ≤ m.length) (kd : Nat → Bool) :
    Inv ⟨P, M, w, Own m ρ, a.tmps.size, n, np, m, ρ, a.defers, kd⟩ tm m ρ a w :=
  ⟨rfl, rfl, ht, hmem.blk, hmem.sep, fun b k hb hk => .inr ⟨b, hb, hk⟩, ⟨rfl, rfl, rfl, Nat.le_refl _, fun _ _ _ => rfl⟩, hM, fun k ⟨b, hb, hk⟩ => hmem.out b k hb hk, hn, fun b cs _ hm => ⟨rfl, cs, hm⟩, fun b e es _ hm => .inr ⟨fun _ => rfl, e, es, hm⟩, fun b _ hm => hm⟩
/-- The memory counted anew from some places; other places' blocks become others'. -/
theorem MemOk.canon (h : MemOk P M w m ρ) {es : List Nat} (hnd : es.Nodup) (H : Nat → Prop) (hH : ∀ b, H b → Live m b ∧ b ∉ es) :
    MemOk P (fun k => M k ∨ ∃ b, H b ∧ own1 (ρ b) = some k) w (canonM 0 m es false) (fun d => ρ (orig 0 es d)) ∧ (∀ p v, Rep M w m ρ p v → Rep (fun k => M k ∨ ∃ b, H b ∧ own1 (ρ b) = some k) w (canonM 0 m es false) (fun d => ρ (orig 0 es d)) (V.ren (pos 0 es) false p) v) ∧ ∀ k, Own (canonM 0 m es false) (fun d => ρ (orig 0 es d)) k → Own m ρ k := by
  have hn : 0 ≤ m.length := Nat.zero_le _
  have hor : ∀ d b, es[d]? = some b → orig 0 es d = b := fun j b hj => by
    unfold orig; rw [if_neg (by omega), Nat.sub_zero, List.getD_eq_getElem?_getD, hj]; rfl
  have hat : ∀ d, Live (canonM 0 m es false) d → ∃ b, es[d]? = some b ∧ Live m b := by
    rintro d ⟨y, hy, hd⟩
    rw [canonM_get hn, if_neg (by omega), Nat.sub_zero] at hy
    obtain ⟨b, hb, rfl⟩ := Option.map_eq_some_iff.1 hy
    refine ⟨b, hb, ?_⟩
    cases hmb : m[b]? with
    | none => rw [hmb] at hd; exact absurd rfl hd
    | some x => rw [hmb] at hd; exact ⟨x, hmb, renB_dead hd⟩
  have hO : ∀ k, Own (canonM 0 m es false) (fun d => ρ (orig 0 es d)) k → Own m ρ k := fun k ⟨d, hd, hk⟩ => by
    obtain ⟨b, hb, hl⟩ := hat d hd
    simp only [hor d b hb] at hk
    exact ⟨b, hl, hk⟩
  have hN : ∀ k, Mine (fun k => M k ∨ ∃ b, H b ∧ own1 (ρ b) = some k) (canonM 0 m es false) (fun d => ρ (orig 0 es d)) k → Mine M m ρ k := by
    rintro k ((hk | ⟨b, hb, hk⟩) | hk)
    · exact .inl hk
    · exact .inr ⟨b, (hH b hb).1, hk⟩
    · exact .inr (hO k hk)
  have hr : ∀ b d e es', pos 0 es b = some d → m[b]? = some (.row e es') → (canonM 0 m es false)[d]? = some (.row e es') ∧ (fun d => ρ (orig 0 es d)) d = ρ b := fun b d e es' h1 h2 => by
    obtain ⟨h3, h4⟩ := pos_at (kc := false) hn h1 h2
    exact ⟨h3, by simp only [h4]⟩
  have hv : ∀ b d cs, pos 0 es b = some d → m[b]? = some (.var cs) → (∃ cs', (canonM 0 m es false)[d]? = some (.var cs')) ∧ (fun d => ρ (orig 0 es d)) d = ρ b := fun b d cs h1 h2 => by
    obtain ⟨h3, h4⟩ := pos_at (kc := false) hn h1 h2
    exact ⟨⟨_, h3⟩, by simp only [h4]⟩
  refine ⟨⟨fun d y hy => ?_, fun d d' k hd hd' hk hk' => ?_, fun d k hd hk => ?_⟩, fun p v hp => hp.ren (.inr hN) (fun e => by cases e) hr hv, hO⟩
  · by_cases hyd : y = .dead
    · subst hyd; exact .dead
    · obtain ⟨x, hx, _, rfl⟩ := canon_at hn hy hyd
      exact (h.blk _ x hx).ren (.inr hN) (fun e => by cases e) hr hv
  · obtain ⟨b, hb, hl⟩ := hat d hd
    obtain ⟨b', hb', hl'⟩ := hat d' hd'
    simp only [hor d b hb] at hk
    simp only [hor d' b' hb'] at hk'
    have := h.sep b b' k hl hl' hk hk'
    subst this
    exact nodup_at hnd hb hb'
  · obtain ⟨b, hb, hl⟩ := hat d hd
    simp only [hor d b hb] at hk
    rintro (hM | ⟨b', hb', hk'⟩)
    · exact h.out b k hl hk hM
    · have := h.sep b b' k hl (hH b' hb').1 hk hk'
      subst this
      exact (hH b hb').2 (List.mem_of_getElem? hb)
end
end Go.V
