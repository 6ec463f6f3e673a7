import Derived.Test.YtfmhmlijnidflaaV15
set_option linter.unusedVariables false
set_option linter.unusedSimpArgs false
namespace Go.V
open Go
theorem yield_run {P : Program} {a : Act} {W : World} {o : Oper} {ty ta l : Nat} {ts : Array TypeId} {f : FuncId} {tms : Array Value} {as bd : Code} (ho : o.op = .call { callee := .value (.tmp ty), args := #[.tmp ta], argTypes := ts }) (hy : a.tmps.getD ty undef = .func (.yield l) #[] #[])
    (hrun : (Instr.yield l #[a.tmps.getD ta undef]).run P W = .ok (.round l f tms as bd) W) : (execOp a.eval o).run P W = .ok (.round l f tms as bd) W := by
  simp only [Array.getD_eq_getD_getElem?] at hy hrun
  simp [execOp, ho, resolve, invoke, Act.eval, hy, hrun, Deferred.ofValue]
/-- A loop that is under way. -/
def LoopAt (P : Program) (c : Code) (Q : Exit → Act → World → Prop) (a : Act) (w : World) : Prop :=
  ∀ (b : Frame) (k : List Item) (cs : List Frame), b.roundOf = none → ∃ e a' w', Q e a' w' ∧ ArrivesIn (Machine.fenced P Fence.wide) P (lone (b.atR a (.code c :: .inLoop c :: k)) cs w) b k cs e a' w'
theorem LoopAt.mk {P : Program} {c : Code} {Q : Exit → Act → World → Prop} {a : Act} {w : World} {n : Nat} (h : c.wpIn Fence.wide n P (Exit.then (LoopAt P c Q) Q) a w) : LoopAt P c Q a w := by
  intro b k cs hro
  obtain ⟨e, a₁, w₁, hq, harr⟩ := h b (.inLoop c :: k) cs hro trivial (room_wide _)
  cases e with
  | normal =>
    obtain ⟨e₂, a₂, w₂, hq₂, harr₂⟩ := hq b k cs hro
    exact ⟨e₂, a₂, w₂, hq₂, .of_steps (StepsIn.trans harr (.one (fenced_wide _ _) stepR_inLoop)) harr₂⟩
  | exit id => exact ⟨_, a₁, w₁, hq, .pass (x := .inLoop c) rfl (fun _ _ => .inl (by simp)) harr⟩
  | ret => exact ⟨_, a₁, w₁, hq, .pass (x := .inLoop c) rfl (fun _ _ => .inl (by simp)) harr⟩
  | goto l => exact ⟨_, a₁, w₁, hq, .pass (x := .inLoop c) rfl (fun _ _ => .inl (by simp)) harr⟩
  | panic ch => exact ⟨_, a₁, w₁, hq, .pass (x := .inLoop c) rfl (fun _ _ => .inl (by simp)) harr⟩
  | outgrown => exact ⟨_, a₁, w₁, hq, .pass (x := .inLoop c) rfl (fun _ _ => .inl (by simp)) harr⟩
theorem LoopAt.loop {P : Program} {c : Code} {Q : Exit → Act → World → Prop} {a : Act} {w : World} {n : Nat} (h : LoopAt P c Q a w) : (Code.loop c).wpIn Fence.wide n P Q a w := fun b k cs hro _ _ =>
  let ⟨e, a', w', q, r⟩ := h b k cs hro
  ⟨e, a', w', q, .of_steps (.one (fenced_wide _ _) stepR_loop) r⟩
theorem wp_wide {P : Program} {Q Q' : Exit → Act → World → Prop} {K : Act → World → Prop} {a : Act} {w : World} {n : Nat} {o : Oper} (hp : ∀ ch a w, ¬ Q' (.panic ch) a w) (hlo : ¬ LetsOut Q') (h : o.wp P a w K Q') : o.wpIn Fence.wide n P a w K Q := by
  refine ⟨fun _ _ => trivial, ?_⟩
  rw [show Fence.wide.round = none from rfl, Oper.semAt_none]
  unfold Oper.wp at h
  generalize (execOp a.eval o).run P w = r at *
  cases r with
  | ok x w' =>
    cases x with
    | value v => exact h
    | skip => exact h
    | defer d => exact h
    | enter f args =>
      refine ⟨fun h => (by cases h), (callsIn_wide.2 h : CallsIn Fence.wide _ _ _ _ _ _).mono fun e w'' he => ?_⟩
      cases e with
      | returned v => exact he
      | panicked ch => exact absurd he (hp _ _ _)
      | outgrown => exact absurd he hlo
    | row row args => exact ⟨fun h => (by cases h), fun c cs _ => by obtain ⟨v, w2, h1, h2⟩ := h c cs; exact ⟨v, w2, h1, stepsIn_wide.2 h2⟩⟩
    | _ => exact h.elim
  | halt x w' => cases x <;> first | exact h.elim | exact absurd h (hp _ _ _)
theorem list_wide {P : Program} {ops : Array Oper} {Q Q' : Exit → Act → World → Prop} {n : Nat} {rest : List Oper} (hp : ∀ ch a w, ¬ Q' (.panic ch) a w) (hlo : ¬ LetsOut Q') (hQ : ∀ a w, Q' .normal a w → wpListIn Fence.wide n P ops Q rest a w) : ∀ (os : List Oper) (a : Act) (w : World), wpList P ops Q' os a w → wpListIn Fence.wide n P ops Q (os ++ rest) a w
  | [], a, w, h => hQ a w h
  | o :: os, a, w, h => by
    rw [wpList] at h
    rw [List.cons_append, wpListIn]
    split
    · rename_i hw
      rw [if_pos hw] at h
      exact Oper.wpIn_mono (fun a w h => list_wide hp hlo hQ os a w h) (wp_wide hp hlo (h.resolve_right fun h => hlo h.2))
    · rename_i hw
      rw [if_neg hw] at h
      exact ⟨fun _ _ => trivial, list_wide hp hlo hQ os _ _ h⟩
/-- What is told of the iterator's variables. -/
structure It (g : Rg) (cmp : FuncId) (es : List (List PV)) (m : Mem) (ρ : Nat → Value) (W : World) : Prop where
  c1 : ∃ v te, W.heap[g.b1]? = some (.cells #[v] te (0, 0)) ∧ v.oneCell' = true ∧ Im W (Mine g.MB m ρ) (.sl es) v
  c2 : ∃ te, W.heap[g.b2]? = some (.cells #[.func (.func cmp) #[] #[]] te (0, 0))
theorem It.move {g : Rg} {cmp : FuncId} {es : List (List PV)} {m m2 : Mem} {ρ ρ2 : Nat → Value} {W W' : World} (hg : g.Ok) (hc : Cal g m ρ W) (h : It g cmp es m ρ W) (hf : Fr (fun k => Own m ρ k ∨ k = g.lr) W W') (hO : ∀ k, Own m2 ρ2 k → W.heap.size ≤ k ∨ Own m ρ k) : It g cmp es m2 ρ2 W' := by
  have k1 : g.MB g.b1 := .inr (.inl rfl)
  have k2 : g.MB g.b2 := .inr (.inr rfl)
  have nO : ∀ {k}, g.MB k → ¬ Own m ρ k := fun hk ⟨b, hb, hk'⟩ => hc.mem.out b _ hb hk' hk
  obtain ⟨v, te, h1, h2, h3⟩ := h.c1
  obtain ⟨te2, h4⟩ := h.c2
  refine ⟨⟨v, te, (hf.block _ (hc.lt _ k1) fun hh => ?_).trans h1, h2, h3.move (hf.mv.mono fun k hk => ?_) fun k hk hh => ?_⟩, ⟨te2, (hf.block _ (hc.lt _ k2) fun hh => ?_).trans h4⟩⟩
  · rcases hh with hh | hh
    · exact nO k1 hh
    · exact hg.n1 (hh ▸ hg.lr)
  · rcases hk with hk | hk
    · exact .inr hk
    · exact .inl (.inl (hk ▸ hg.lr))
  · rcases hh with hh | hh
    · exact .inl hh
    · rcases hO k hh with h | h
      · omega
      · exact .inr h
  · rcases hh with hh | hh
    · exact nO k2 hh
    · exact hg.n2 (hh ▸ hg.lr)
def mI (cmp : FuncId) (es : List (List PV)) : Mem := [.var [.sl es], .var [.fn cmp []]]
def ρI (g : Rg) : Nat → Value := fun b => if b = 0 then .pointer (some ⟨g.b1, 0, none⟩) else .pointer (some ⟨g.b2, 0, none⟩)
def Rg.MI (g : Rg) (m : Mem) (ρ : Nat → Value) (k : Nat) : Prop := g.M0 k ∨ Own m ρ k
theorem own_mI {g : Rg} {cmp : FuncId} {es : List (List PV)} {ρ' : Nat → Value} (h0 : ρ' 0 = ρI g 0) (h1 : ρ' 1 = ρI g 1) (k : Nat) : Own (mI cmp es) ρ' k ↔ k = g.b1 ∨ k = g.b2 := by
  constructor
  · rintro ⟨b, ⟨x, hx, _⟩, hk⟩
    match b, hx with
    | 0, _ => rw [h0] at hk; simp [ρI, own1] at hk; exact .inl hk.symm
    | 1, _ => rw [h1] at hk; simp [ρI, own1] at hk; exact .inr hk.symm
    | b + 2, hx => simp [mI] at hx
  · rintro (rfl | rfl)
    · exact ⟨0, ⟨_, rfl, by simp⟩, by rw [h0]; rfl⟩
    · exact ⟨1, ⟨_, rfl, by simp⟩, by rw [h1]; rfl⟩
/-- A slot of the iterator's. -/
def slI (g : Rg) (p : PV) (v : Value) : Prop := p = .any ∨ (p = .adr 0 0 ∧ v = .pointer (some ⟨g.b1, 0, none⟩)) ∨ (p = .adr 1 0 ∧ v = .pointer (some ⟨g.b2, 0, none⟩)) ∨ (p = .val v ∧ okB v = true)
theorem it_inv {g : Rg} (hg : g.Ok) {cmp : FuncId} {es : List (List PV)} {m : Mem} {ρ : Nat → Value} {W : World} {tm : Tm} {a : Act} (hc : Cal g m ρ W) (hi : It g cmp es m ρ W) (ht : ∀ t, slI g (get tm t) (a.tmps.getD t undef)) :
    Inv ⟨g.P, g.MI m ρ, W, Own (mI cmp es) (ρI g), a.tmps.size, 2, 0, mI cmp es, ρI g, a.defers, fun _ => true⟩ tm (mI cmp es) (ρI g) a W := by
  obtain ⟨v, te, h1, h2, h3⟩ := hi.c1
  obtain ⟨te2, h4⟩ := hi.c2
  have hsub : ∀ k, Mine (g.MI m ρ) (mI cmp es) (ρI g) k → Mine g.MB m ρ k := by
    rintro k ((hk | hk) | hk)
    · exact .inl (.inl hk)
    · exact .inr hk
    · rcases (own_mI rfl rfl k).1 hk with h | h
      · exact .inl (.inr (.inl h))
      · exact .inl (.inr (.inr h))
  have hM : ∀ k, g.MI m ρ k → k < W.heap.size := fun k hk => by
    rcases hk with hk | ⟨b, hb, hk⟩
    · exact hc.lt k (.inl hk)
    · exact hc.mem.lt hb hk
  have hmem : MemOk g.P (g.MI m ρ) W (mI cmp es) (ρI g) := by
    refine ⟨fun b x hx => ?_, fun b b' k hb hb' hk hk' => ?_, fun b k hb hk => ?_⟩
    · match b, hx with
      | 0, hx =>
        simp [mI] at hx; subst hx
        refine .var h1 rfl (fun j p u hj hu => ?_) (fun u hu => by simp at hu; subst hu; exact h2)
        match j, hj with
        | 0, hj => simp at hj hu; subst hj; subst hu; exact .im (h3.sub hsub)
        | j + 1, hj => simp at hj
      | 1, hx =>
        simp [mI] at hx; subst hx
        refine .var h4 rfl (fun j p u hj hu => ?_) (fun u hu => by simp at hu; subst hu; rfl)
        match j, hj with
        | 0, hj => simp at hj hu; subst hj; subst hu; exact .fn rfl (fun i p v hp _ => by simp at hp)
        | j + 1, hj => simp at hj
      | b + 2, hx => simp [mI] at hx
    · obtain ⟨x, hx, _⟩ := hb
      obtain ⟨x', hx', _⟩ := hb'
      have := hg.ne
      match b, b', hx, hx' with
      | 0, 0, _, _ => rfl
      | 1, 1, _, _ => rfl
      | 0, 1, _, _ => simp [ρI, own1] at hk hk'; exact absurd (hk.trans hk'.symm) hg.ne
      | 1, 0, _, _ => simp [ρI, own1] at hk hk'; exact absurd (hk'.trans hk.symm) hg.ne
      | b + 2, _, hx, _ => simp [mI] at hx
      | 0, b + 2, _, hx => simp [mI] at hx
      | 1, b + 2, _, hx => simp [mI] at hx
    · rcases (own_mI rfl rfl k).1 ⟨b, hb, hk⟩ with rfl | rfl
      · rintro (h | ⟨b', hb', hk'⟩)
        · exact hg.n1 h
        · exact hc.mem.out b' _ hb' hk' (.inr (.inl rfl))
      · rintro (h | ⟨b', hb', hk'⟩)
        · exact hg.n2 h
        · exact hc.mem.out b' _ hb' hk' (.inr (.inr rfl))
  refine mkInv hM hmem (fun t => ?_) 2 0 (Nat.le_refl _) _
  rcases ht t with e | ⟨e, e'⟩ | ⟨e, e'⟩ | ⟨e, e'⟩
  · rw [e]; exact .im .any
  · rw [e, e']; exact .adr rfl rfl
  · rw [e, e']; exact .adr rfl rfl
  · rw [e]; exact .im (.val e')
/-- Behind a piece of the iterator's code. -/
theorem it_back {g : Rg} (hg : g.Ok) {cmp : FuncId} {es es' : List (List PV)} {m : Mem} {ρ ρ' : Nat → Value} {W W' : World} {tm' : Tm} {a' : Act} {N : Nat} {D : List Deferred} (hc : Cal g m ρ W)
    (h : Inv ⟨g.P, g.MI m ρ, W, Own (mI cmp es) (ρI g), N, 2, 0, mI cmp es, ρI g, D, fun _ => true⟩ tm' (mI cmp es') ρ' a' W') :
    Cal g m ρ W' ∧ It g cmp es' m ρ W' ∧ Fr (fun k => k = g.b1 ∨ k = g.b2) W W' ∧ (get tm' 1 = .adr 0 0 → a'.tmps.getD 1 undef = .pointer (some ⟨g.b1, 0, none⟩)) ∧ (get tm' 2 = .adr 1 0 → a'.tmps.getD 2 undef = .pointer (some ⟨g.b2, 0, none⟩)) ∧ (∀ t x, get tm' t = .val x → a'.tmps.getD t undef = x) ∧ ∀ t rs, get tm' t = .sl rs → Im W' (Mine g.MB m ρ) (.sl rs) (a'.tmps.getD t undef) := by
  have h0 : ρ' 0 = ρI g 0 := (h.ft.var 0 _ (by decide : 0 < 2) rfl).1
  have h1 : ρ' 1 = ρI g 1 := (h.ft.var 1 _ (by decide : 1 < 2) rfl).1
  have hf : Fr (fun k => k = g.b1 ∨ k = g.b2) W W' := h.fr.sub fun k hk => (own_mI rfl rfl k).1 hk
  have hsub : ∀ k, Mine g.MB m ρ k → Mine (g.MI m ρ) (mI cmp es') ρ' k := by
    rintro k ((hk | hk | hk) | hk)
    · exact .inl (.inl hk)
    · exact .inr ((own_mI h0 h1 k).2 (.inl hk))
    · exact .inr ((own_mI h0 h1 k).2 (.inr hk))
    · exact .inl (.inr hk)
  refine ⟨hc.move hg hf (fun k hk => hk.elim .inl fun h => .inr (.inl h)), ⟨?_, ?_⟩, hf, fun ht => ?_, fun ht => ?_, fun t x ht => (ht ▸ h.tm t : Rep _ _ _ _ (.val x) _).val_eq, fun t rs ht => ?_⟩
  · have hb := h.blk 0 _ rfl
    rw [h0] at hb
    cases hb with
    | var hg1 hl hj hone =>
      rename_i te vs
      obtain ⟨l⟩ := vs
      match l, hl with
      | [v], _ =>
        have hr := hj 0 _ v rfl rfl
        cases hr with
        | im him => exact ⟨v, te, hg1, hone v (by simp), him.sub hsub⟩
  · have hb := h.blk 1 _ rfl
    rw [h1] at hb
    cases hb with
    | var hg1 hl hj hone =>
      rename_i te vs
      obtain ⟨l⟩ := vs
      match l, hl with
      | [v], _ =>
        have hr := hj 0 _ v rfl rfl
        have : v = .func (.func cmp) #[] #[] := by
          cases hr with
          | im him => cases him with
            | fn hl' _ => rw [Array.eq_empty_of_size_eq_zero hl'.symm]
          | fn hl' _ => rw [Array.eq_empty_of_size_eq_zero hl'.symm]
        subst this
        exact ⟨te, hg1⟩
  · have hr := h.tm 1
    rw [ht] at hr
    generalize a'.tmps.getD 1 undef = v at hr
    cases hr with
    | im hh => cases hh
    | adr _ hp => rw [h0] at hp; simp [ρI] at hp; rw [hp]
  · have hr := h.tm 2
    rw [ht] at hr
    generalize a'.tmps.getD 2 undef = v at hr
    cases hr with
    | im hh => cases hh
    | adr _ hp => rw [h1] at hp; simp [ρI] at hp; rw [hp]
  · have hr := h.tm t
    rw [ht] at hr
    cases hr with
    | im hh => exact hh.sub hsub
end Go.V
