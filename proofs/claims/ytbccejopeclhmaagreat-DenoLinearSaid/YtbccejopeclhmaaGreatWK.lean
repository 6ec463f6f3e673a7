import Derived.Test.YtbccejopeclhmaaGreatM3
set_option linter.unusedVariables false
set_option linter.unusedSimpArgs false
namespace Go.V
open Go
/-- Whatever is told as the second is told as the first too. -/
def Wk (p p' : PV) : Prop := ∀ (M : Nat → Prop) (w : World) (m : Mem) (ρ : Nat → Value) (v : Value), Rep M w m ρ p' v → Rep M w m ρ p v
inductive WkL : List PV → List PV → Prop where
  | nil : WkL [] []
  | cons {p p' : PV} {l l' : List PV} : Wk p p' → WkL l l' → WkL (p :: l) (p' :: l')
theorem wk_refl (p : PV) : Wk p p := fun _ _ _ _ _ h => h
theorem wkL_refl : ∀ l : List PV, WkL l l
  | [] => .nil
  | p :: l => .cons (wk_refl p) (wkL_refl l)
theorem wk_nil : Wk (.sl []) (.val (.slice none 0 0)) := fun M w m ρ v h => by
  have := h.val_eq; subst this
  exact .im (.sl (sz := 0) (fun _ _ => undef) rfl (Nat.zero_le _) (Nat.le_refl _) (fun x hx => by cases hx) (.inl rfl) (fun i j e p he => by simp at he))
theorem WkL.length : ∀ {l l' : List PV}, WkL l l' → l.length = l'.length
  | _, _, .nil => rfl
  | _, _, .cons _ h => by rw [List.length_cons, List.length_cons, h.length]
theorem WkL.get : ∀ {l l' : List PV}, WkL l l' → ∀ {i : Nat} {p : PV}, l[i]? = some p → ∃ p', l'[i]? = some p' ∧ Wk p p'
  | _, _, .cons h _, 0, p, hp => by simp at hp; subst hp; exact ⟨_, rfl, h⟩
  | _, _, .cons _ h, i + 1, p, hp => by
    obtain ⟨p', h1, h2⟩ := h.get (i := i) (p := p) (by simpa using hp)
    exact ⟨p', by simpa using h1, h2⟩
theorem wk_agg {cs cs' : List PV} (h : WkL cs cs') : Wk (.agg cs) (.agg cs') := fun M w m ρ v hv => by
  cases hv with
  | im hi =>
    cases hi with
    | agg hl hr h1 =>
      refine .agg (by rw [h.length]; exact hl) (fun i p v hp hv => ?_) h1
      obtain ⟨p', h2, h3⟩ := h.get hp
      exact h3 _ _ _ _ _ (.im (hr i p' v h2 hv))
  | agg hl hr h1 =>
    refine .agg (by rw [h.length]; exact hl) (fun i p v hp hv => ?_) h1
    obtain ⟨p', h2, h3⟩ := h.get hp
    exact h3 _ _ _ _ _ (hr i p' v h2 hv)
theorem does_weak {P : Program} {f : FuncId} {args args' : List PV} {m : Mem} {np : Nat} {Q : PV → Mem → Prop} (h : Does P f args m np Q) (hw : WkL args args') : Does P f args' m np Q :=
  ⟨h.1, fun M w vs ρ hM hm hl hr => h.2 M w vs ρ hM hm (hw.length.trans hl) fun i p v hp hv => by
    obtain ⟨p', h1, h2⟩ := hw.get hp
    exact h2 _ _ _ _ _ (hr i p' v h1 hv)⟩
end Go.V
