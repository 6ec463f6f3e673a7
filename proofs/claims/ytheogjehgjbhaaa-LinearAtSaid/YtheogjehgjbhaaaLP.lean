import Derived.Test.YtheogjehgjbhaaaLN
namespace Go.V
open Go Go.RowKit Go.Proofs
set_option maxRecDepth 100000
set_option maxHeartbeats 4000000
set_option linter.unusedVariables false
set_option linter.unusedSimpArgs false
/-- Whatever is told as the second is told as the first too. -/
def Wk (p p' : PV) : Prop := ∀ (M : Nat → Prop) (w : World) (m : Mem) (ρ : Nat → Value) (v : Value), Rep M w m ρ p' v → Rep M w m ρ p v
inductive WkL : List PV → List PV → Prop where
  | nil : WkL [] []
  | cons {p p' : PV} {l l' : List PV} : Wk p p' → WkL l l' → WkL (p :: l) (p' :: l')
theorem wk_refl (p : PV) : Wk p p := fun _ _ _ _ _ h => h
theorem wkL_refl : ∀ l : List PV, WkL l l
  | [] => .nil
  | p :: l => .cons (wk_refl p) (wkL_refl l)
theorem wk_nil : Wk (.sl []) (.val (.slice none 0 0)) := fun M w m ρ v h => by
  have := h.val_eq; subst this
  exact .im (.sl (sz := 0) (fun _ _ => undef) rfl (Nat.zero_le _) (Nat.le_refl _) (fun x hx => by cases hx) (.inl rfl) (fun i j e p he => by simp at he))
theorem WkL.length : ∀ {l l' : List PV}, WkL l l' → l.length = l'.length
  | _, _, .nil => rfl
  | _, _, .cons _ h => by rw [List.length_cons, List.length_cons, h.length]
theorem WkL.get : ∀ {l l' : List PV}, WkL l l' → ∀ {i : Nat} {p : PV}, l[i]? = some p → ∃ p', l'[i]? = some p' ∧ Wk p p'
  | _, _, .cons h _, 0, p, hp => by simp at hp; subst hp; exact ⟨_, rfl, h⟩
  | _, _, .cons _ h, i + 1, p, hp => by
    obtain ⟨p', h1, h2⟩ := h.get (i := i) (p := p) (by simpa using hp)
    exact ⟨p', by simpa using h1, h2⟩
theorem wk_agg {cs cs' : List PV} (h : WkL cs cs') : Wk (.agg cs) (.agg cs') := fun M w m ρ v hv => by
  cases hv with
  | im hi =>
    cases hi with
    | agg hl hr h1 =>
      refine .agg (by rw [h.length]; exact hl) (fun i p v hp hv => ?_) h1
      obtain ⟨p', h2, h3⟩ := h.get hp
      exact h3 _ _ _ _ _ (.im (hr i p' v h2 hv))
  | agg hl hr h1 =>
    refine .agg (by rw [h.length]; exact hl) (fun i p v hp hv => ?_) h1
    obtain ⟨p', h2, h3⟩ := h.get hp
    exact h3 _ _ _ _ _ (hr i p' v h2 hv)
theorem does_weak {P : Program} {f : FuncId} {args args' : List PV} {m : Mem} {np : Nat} {Q : PV → Mem → Prop} (h : Does P f args m np Q) (hw : WkL args args') : Does P f args' m np Q :=
  ⟨h.1, fun M w vs ρ hM hm hl hr => h.2 M w vs ρ hM hm (hw.length.trans hl) fun i p v hp hv => by
    obtain ⟨p', h1, h2⟩ := hw.get hp
    exact h2 _ _ _ _ _ (hr i p' v h1 hv)⟩
theorem live_val : linV ⟨7, [], [], [], [], 0, 0, 4, 2⟩ ⟨[⟨0, 5, nilS⟩], ⟨1, 0⟩, 2⟩ = ([⟨[⟨0, 5, nilS⟩, ⟨0, 2, nilS⟩], ⟨1, 0⟩, 2⟩, ⟨[⟨0, 5, nilS⟩, ⟨0, 4, nilS⟩], ⟨1, 0⟩, 2⟩], 0) := by decide +kernel
theorem live_same : sameU [⟨[⟨0, 5, nilS⟩, ⟨0, 2, nilS⟩], ⟨1, 0⟩, 2⟩, ⟨[⟨0, 5, nilS⟩, ⟨0, 4, nilS⟩], ⟨1, 0⟩, 2⟩] [⟨[⟨0, 5, nilS⟩, ⟨0, 2, nilS⟩], ⟨1, 0⟩, 2⟩, ⟨[⟨0, 5, nilS⟩, ⟨0, 4, nilS⟩], ⟨1, 0⟩, 2⟩] = true := by decide +kernel
theorem live_do (Q : PV → Mem → Prop) (h : Q (.tup [.own 0, vi 0]) [.row 71 [[.sl [[vi 0, vi 5, vs nilS], [vi 0, vi 2, vs nilS]], vi 1, vi 0, vi 2], [.sl [[vi 0, vi 5, vs nilS], [vi 0, vi 4, vs nilS]], vi 1, vi 0, vi 2]]]) :
    Does Try.prog 35 [.agg [vi 7, .val (.slice none 0 0), .val (.slice none 0 0), .val (.slice none 0 0), .val (.slice none 0 0), vi 0, vi 0, vi 4, vi 2], .agg [.sl [[vi 0, vi 5, vs nilS]], vi 1, vi 0, vi 2]] [] 0 Q :=
  does_weak (linear_Do ⟨7, [], [], [], [], 0, 0, 4, 2⟩ ⟨[⟨0, 5, nilS⟩], ⟨1, 0⟩, 2⟩ Q (by decide) (by rw [live_val]; exact h))
    (.cons (wk_agg (.cons (wk_refl _) (.cons wk_nil (.cons wk_nil (.cons wk_nil (.cons wk_nil (wkL_refl _))))))) (wkL_refl _))
theorem live_eq (Q : PV → Mem → Prop) (h : Q (vb true) []) : Does Try.prog 34 [.sl [[.sl [[vi 0, vi 5, vs nilS], [vi 0, vi 2, vs nilS]], vi 1, vi 0, vi 2], [.sl [[vi 0, vi 5, vs nilS], [vi 0, vi 4, vs nilS]], vi 1, vi 0, vi 2]],
    .sl [[.sl [[vi 0, vi 5, vs nilS], [vi 0, vi 2, vs nilS]], vi 1, vi 0, vi 2], [.sl [[vi 0, vi 5, vs nilS], [vi 0, vi 4, vs nilS]], vi 1, vi 0, vi 2]]] [] 0 Q :=
  ref07_Same [⟨[⟨0, 5, nilS⟩, ⟨0, 2, nilS⟩], ⟨1, 0⟩, 2⟩, ⟨[⟨0, 5, nilS⟩, ⟨0, 4, nilS⟩], ⟨1, 0⟩, 2⟩] [⟨[⟨0, 5, nilS⟩, ⟨0, 2, nilS⟩], ⟨1, 0⟩, 2⟩, ⟨[⟨0, 5, nilS⟩, ⟨0, 4, nilS⟩], ⟨1, 0⟩, 2⟩] Q (by rw [live_same]; exact h)
theorem law20_live  (Q : PV → Mem → Prop)  (h : Q (vb true) []) : Does Try.prog 26 [] [] 0 Q := by
  refine does_of mixed Try.func26 rfl (by kernel_rfl) no (slots []) ?_
  simp only [Try.f26]
  repeat' (first
    | simp -implicitDefEqProofs only [go_sem, Nat.reduceAdd, Nat.reduceEqDiff, Nat.reduceLT, Nat.reduceBEq, Nat.reduceLeDiff, Nat.reduceSub, Int.reduceLE, Int.reduceNeg, Int.reduceEq, Int.reduceToNat]
    | with_reducible refine know_of fun _ => ?_
    | (with_reducible refine does_then (live_do _ ?_))
    | (with_reducible refine does_then (law20_code _ _ ?_))
    | (with_reducible refine does_then (live_eq _ ?_))
    | with_reducible refine ifD1 (by omega) ?_
    | with_reducible refine ifD0 (by omega) ?_
    | with_reducible refine ifE1 (by omega) ?_
    | with_reducible refine ifE0 (by omega) ?_
    | with_reducible refine ifN1 (by omega) ?_
    | with_reducible refine ifN0 (by omega) ?_
    | with_reducible refine ifD_of (fun _ => ?_) (fun _ => ?_)
    | with_reducible refine ifE_of (fun _ => ?_) (fun _ => ?_)
    | with_reducible refine ifN_of (fun _ => ?_) (fun _ => ?_)
    | with_reducible refine Go.V.if1 (by assumption) ?_
    | with_reducible refine Go.V.if0 (by assumption) ?_
    | with_reducible refine if_of (fun _ => ?_) (fun _ => ?_)
    | with_reducible refine s_of (idx_get _ _ _ (by omega) (by omega)) ?_
    | with_reducible refine s_of (idx_get _ _ _ (by omega) (by simp only [List.length_set, List.length_append, List.length_take, List.length_drop, List.length_reverse, List.length_singleton]; omega)) ?_
    | with_reducible refine s_of (map_get _ _ _ (by omega)) ?_
    | with_reducible refine s_of (map_get _ _ _ (by simp only [List.length_set]; omega)) ?_
    | with_reducible refine s_of (if_neg (by omega)) ?_
    | with_reducible refine s_of (if_pos (by omega)) ?_
    | with_reducible refine need_of (by omega) ?_
    | with_reducible refine nil_of (fun _ => ?_) ?_
    | with_reducible refine alt_of ?_ ?_
    | (with_reducible apply join_of; intro _ _)
    | with_reducible assumption)
  all_goals exact h
end Go.V
