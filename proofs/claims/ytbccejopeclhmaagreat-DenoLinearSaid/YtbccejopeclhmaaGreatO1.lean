import Derived.Carry
import Derived.SizedLaws
import Derived.DataReads
import Derived.DataElems
import Derived.WideShapes
import Derived.ChangeShapes
import Derived.Test.YtbccejopeclhmaaGreatM1
set_option linter.unusedVariables false
set_option linter.unusedSimpArgs false
namespace Go.V
open Go Go.ChangeShapes Go.WideShapes
/-- Cells that lie in memory, told. -/
def RepC (w : World) (ps : List PV) (cs : List Value) : Prop := ps.length = cs.length ∧ (∀ (i : Nat) (p : PV) (v : Value), ps[i]? = some p → cs[i]? = some v → Im w (fun _ => False) p v) ∧ ∀ v ∈ cs, v.oneCell' = true
/-- Whatever reads as a datum of type t is told by such a thing. -/
def Opens {α : Type} (P : Program) (t : TypeId) (sz : Nat) (tell : α → List PV) (wf : α → Prop) : Prop :=
  (∀ y, (tell y).length = sz) ∧ P.cellsOf t = sz ∧
  ∀ (H : Type) (enc : TypeId × Value → H) (w : World) (spare : Nat → Bool) (fuel : Nat) (cs : List Value) (x : DataW H × List MemPlace), DataW.trod enc P w 0 spare true fuel t cs = some x → (DataW.weights P t x.1).all (· ≤ reachBytes) = true → ∃ y, RepC w (tell y) cs ∧ wf y
theorem repC_one {w : World} {p : PV} {v : Value} (h : Im w (fun _ => False) p v) (h1 : v.oneCell' = true) : RepC w [p] [v] :=
  ⟨rfl, fun i q u hq hu => by
    cases i with
    | zero => simp at hq hu; subst hq; subst hu; exact h
    | succ i => simp at hq, fun u hu => by simp at hu; subst hu; exact h1⟩
theorem opens_int {P : Program} {t : TypeId} {k : IntKind} (hu : P.underlying t = some (.int k)) (hc : P.cellsOf t = 1) : Opens P t 1 (fun n => [.val (.int k n)]) (fun n => (Lit.int k n).wf = true) := by
  refine ⟨fun _ => rfl, hc, ?_⟩
  intro H enc w spare fuel cs x h _
  cases fuel with
  | zero => simp [DataW.trod] at h
  | succ fuel =>
    unfold DataW.trod at h
    rw [hu] at h
    split at h <;> try (simp_all; done)
    split at h
    · rename_i h1 h2 h3
      obtain ⟨h4, h5⟩ := h3
      cases h2
      subst h4
      refine ⟨h1, repC_one (.val ?_) rfl, h5⟩
      simp only [Lit.wf, Bool.and_eq_true, decide_eq_true_eq] at h5
      exact decide_eq_true h5
    · simp at h
theorem opens_string {P : Program} {t : TypeId} (hu : P.underlying t = some .string) (hc : P.cellsOf t = 1) : Opens P t 1 (fun s => [.val (.string s)]) (fun s => s.size ≤ 140737488351232) := by
  refine ⟨fun _ => rfl, hc, ?_⟩
  intro H enc w spare fuel cs x h hw
  cases fuel with
  | zero => simp [DataW.trod] at h
  | succ fuel =>
    unfold DataW.trod at h
    rw [hu] at h
    split at h <;> try (simp_all; done)
    split at h
    · simp only [Option.some.injEq] at h
      subst h
      simp only [DataW.weights, List.all_cons, List.all_nil, Bool.and_true, reachBytes] at hw
      rw [Array.length_toList] at hw
      have hw' := of_decide_eq_true hw
      refine ⟨_, repC_one (.val (decide_eq_true ?_)) rfl, hw'⟩
      exact Nat.le_trans hw' (by decide)
    · simp at h
theorem weightsAll_mem {H : Type} {P : Program} {e : TypeId} : ∀ {l : List (DataW H)} {d : DataW H}, (DataW.weightsAll P e l).all (· ≤ reachBytes) = true → d ∈ l → (DataW.weights P e d).all (· ≤ reachBytes) = true
  | [], _, _, hd => by simp at hd
  | a :: l, d, h, hd => by
    simp only [DataW.weightsAll, List.all_append, Bool.and_eq_true] at h
    rcases List.mem_cons.1 hd with rfl | hd
    · exact h.1
    · exact weightsAll_mem h.2 hd
theorem chosen {α β : Type} {R : α → β → Prop} : ∀ (n : Nat) (f : Nat → β), (∀ i, i < n → ∃ y, R y (f i)) → ∃ l : List α, l.length = n ∧ ∀ j p, l[j]? = some p → R p (f j)
  | 0, _, _ => ⟨[], rfl, fun j p h => by simp at h⟩
  | n + 1, f, h => by
    obtain ⟨l, hl, hr⟩ := chosen n f (fun i hi => h i (by omega))
    obtain ⟨y, hy⟩ := h n (by omega)
    refine ⟨l ++ [y], by simp [hl], fun j p hj => ?_⟩
    by_cases hlt : j < l.length
    · rw [List.getElem?_append_left hlt] at hj
      exact hr j p hj
    · have hjn : j = n := by
        have := (List.getElem?_eq_some_iff.1 hj).1
        simp at this
        omega
      subst hjn
      rw [List.getElem?_append_right (by omega), hl, Nat.sub_self] at hj
      simp at hj
      subst hj
      exact hy
theorem opens_slice {α : Type} {P : Program} {t e : TypeId} {sz B : Nat} {tell : α → List PV} {wf : α → Prop} (hu : P.underlying t = some (.slice e)) (hct : P.cellsOf t = 1) (hb : P.bytesOf e = B) (ho : Opens P e sz tell wf) :
    Opens P t 1 (fun l : List α => [.sl (l.map tell)]) (fun l => l.length * B ≤ 140737488351232 ∧ ∀ y ∈ l, wf y) := by
  obtain ⟨hsz, hc, ho⟩ := ho
  refine ⟨fun _ => rfl, hct, ?_⟩
  intro H enc w spare fuel cs x h hw
  rcases DataW.trod_slice hu h with ⟨rfl, rfl⟩ | ⟨a, len, cap, elems, rest, n, _, rfl, rfl, _, hl, hm, hlen, hel, hsp, hns⟩
  · exact ⟨[], repC_one (.sl (sz := 0) (fun _ _ => undef) rfl (Nat.zero_le _) (Nat.le_refl _) (fun x hx => by simp at hx) (.inl rfl) (fun i j e p he => by simp at he)) rfl, by simp, fun y hy => by simp at hy⟩
  · simp only [DataW.weights, hu, List.all_cons, List.all_append, Bool.and_eq_true, decide_eq_true_eq, List.length_map] at hw
    obtain ⟨hw1, hw2, _⟩ := hw
    have each : ∀ i, i < len → ∃ y, (RepC w (tell y) ((w.cells? 0 (a.add (i * P.cellsOf e)) (P.cellsOf e)).getD []) ∧ wf y) := by
      intro i hi
      have h1 := hel i hi
      have hie : i < elems.length := by omega
      rw [List.getElem?_eq_getElem hie] at h1
      obtain ⟨c, h2, h3⟩ := Option.bind_eq_some_iff.1 h1
      rw [h2]
      exact ho H enc w spare n c _ h3 (weightsAll_mem hw2 (List.mem_map.2 ⟨_, List.getElem_mem hie, rfl⟩))
    obtain ⟨l, hll, hlr⟩ := chosen (R := fun y c => RepC w (tell y) c ∧ wf y) len (fun i => (w.cells? 0 (a.add (i * P.cellsOf e)) (P.cellsOf e)).getD []) each
    have hB : l.length * B ≤ 140737488351232 := by
      rw [hb] at hw1
      unfold reachBytes at hw1
      refine Nat.le_trans (Nat.mul_le_mul_right _ ?_) hw1
      omega
    refine ⟨l, repC_one (.sl (sz := sz) (fun i j => ((w.cells? 0 (a.add (i * P.cellsOf e)) (P.cellsOf e)).getD []).getD j undef) (by rw [List.length_map]; exact hll) (by omega) (by omega) (fun x hx => ?_) (.inr ⟨a, rfl, fun i j x p hx hp => ?_⟩) (fun i j x p hx hp => ?_)) rfl, hB, fun y hy => ?_⟩
    · obtain ⟨y, _, rfl⟩ := List.mem_map.1 hx; exact hsz y
    · rw [List.getElem?_map] at hx
      obtain ⟨y, hy, rfl⟩ := Option.map_eq_some_iff.1 hx
      have hil : i < len := by have := (List.getElem?_eq_some_iff.1 hy).1; omega
      obtain ⟨⟨r1, r2, r3⟩, _⟩ := hlr i y hy
      have h1 := hel i hil
      rw [List.getElem?_eq_getElem (show i < elems.length by omega)] at h1
      obtain ⟨c, h2, _⟩ := Option.bind_eq_some_iff.1 h1
      rw [h2] at r1 r2 r3 ⊢
      simp only [Option.getD_some] at r1 r2 r3 ⊢
      have hq := World.cells?_some h2
      have hjc : j < c.length := by have := (List.getElem?_eq_some_iff.1 hp).1; omega
      have h5 := hq.2.2 j (by omega)
      rw [Addr.add_add, hc, List.getElem?_eq_getElem hjc] at h5
      refine ⟨?_, fun h => h, ?_⟩
      · rw [h5, List.getD_eq_getElem?_getD, List.getElem?_eq_getElem hjc]; rfl
      · rw [List.getD_eq_getElem?_getD, List.getElem?_eq_getElem hjc]; exact r3 _ (List.getElem_mem hjc)
    · rw [List.getElem?_map] at hx
      obtain ⟨y, hy, rfl⟩ := Option.map_eq_some_iff.1 hx
      obtain ⟨⟨r1, r2, r3⟩, _⟩ := hlr i y hy
      refine r2 j p _ hp ?_
      have hjc : j < ((w.cells? 0 (a.add (i * P.cellsOf e)) (P.cellsOf e)).getD []).length := by have := (List.getElem?_eq_some_iff.1 hp).1; omega
      rw [List.getD_eq_getElem?_getD, List.getElem?_eq_getElem hjc]; rfl
    · obtain ⟨j, hj, rfl⟩ := List.mem_iff_getElem.1 hy
      exact (hlr j _ (List.getElem?_eq_getElem hj)).2
/-- The fields of a struct, from a place on. -/
def OpensF {α : Type} (P : Program) (fs : List Field) (off sz : Nat) (tell : α → List PV) (wf : α → Prop) : Prop :=
  (∀ y, (tell y).length = sz) ∧
  ∀ (H : Type) (enc : TypeId × Value → H) (w : World) (spare : Nat → Bool) (fuel : Nat) (cs : List Value) (xs : List (DataW H × List MemPlace)),
    (fs.mapM fun f => DataW.trod enc P w 0 spare true fuel f.type ((cs.drop f.offset).take (P.cellsOf f.type))) = some xs → (DataW.weightsEach P (fs.map (·.type)) (xs.map (·.1))).all (· ≤ reachBytes) = true → ∃ y, RepC w (tell y) ((cs.drop off).take sz) ∧ wf y
theorem opensF_one {α : Type} {P : Program} {f : Field} {sz : Nat} {tell : α → List PV} {wf : α → Prop} (ho : Opens P f.type sz tell wf) : OpensF P [f] f.offset sz tell wf := by
  refine ⟨ho.1, ?_⟩
  intro H enc w spare fuel cs xs h hw
  simp only [List.mapM_cons, List.mapM_nil, Option.pure_def, Option.bind_eq_bind, Option.bind_eq_some_iff, Option.some.injEq] at h
  obtain ⟨x, h1, ys, rfl, rfl⟩ := h
  simp only [List.map_cons, List.map_nil, DataW.weightsEach, List.append_nil] at hw
  rw [ho.2.1] at h1
  exact ho.2.2 H enc w spare fuel _ x h1 hw
theorem repC_app {w : World} {ps qs : List PV} {cs ds : List Value} (h : RepC w ps cs) (g : RepC w qs ds) : RepC w (ps ++ qs) (cs ++ ds) := by
  obtain ⟨h1, h2, h3⟩ := h
  obtain ⟨g1, g2, g3⟩ := g
  refine ⟨by rw [List.length_append, List.length_append, h1, g1], fun i p v hp hv => ?_, fun v hv => ?_⟩
  · by_cases hi : i < ps.length
    · rw [List.getElem?_append_left hi] at hp
      rw [List.getElem?_append_left (by omega)] at hv
      exact h2 i p v hp hv
    · rw [List.getElem?_append_right (by omega)] at hp
      rw [List.getElem?_append_right (by omega)] at hv
      exact g2 (i - ps.length) p v hp (by rw [h1]; exact hv)
  · rcases List.mem_append.1 hv with hv | hv
    · exact h3 v hv
    · exact g3 v hv
theorem opensF_cons {α β : Type} {P : Program} {f : Field} {fs : List Field} {sa sb s : Nat} {ta : α → List PV} {tb : β → List PV} {wa : α → Prop} {wb : β → Prop} (ho : Opens P f.type sa ta wa) (hr : OpensF P fs (f.offset + sa) sb tb wb) (hs : sa + sb = s) :
    OpensF P (f :: fs) f.offset s (fun y : α × β => ta y.1 ++ tb y.2) (fun y => wa y.1 ∧ wb y.2) := by
  subst hs
  refine ⟨fun y => by rw [List.length_append, ho.1, hr.1], ?_⟩
  intro H enc w spare fuel cs xs h hw
  simp only [List.mapM_cons, Option.pure_def, Option.bind_eq_bind, Option.bind_eq_some_iff, Option.some.injEq] at h
  obtain ⟨x, h1, ys, h2, rfl⟩ := h
  simp only [List.map_cons, DataW.weightsEach, List.all_append, Bool.and_eq_true] at hw
  rw [ho.2.1] at h1
  obtain ⟨y, k1, w1⟩ := ho.2.2 H enc w spare fuel _ x h1 hw.1
  obtain ⟨z, k2, w2⟩ := hr.2 H enc w spare fuel cs ys h2 hw.2
  refine ⟨(y, z), ?_, w1, w2⟩
  rw [List.take_add, List.drop_drop]
  exact repC_app k1 k2
theorem opens_struct {α β : Type} {P : Program} {t : TypeId} {fs : Array Field} {sz : Nat} {ta : α → List PV} {tb : β → List PV} {g : β → α} {wb : β → Prop} {wa : α → Prop} (hu : P.underlying t = some (.struct fs)) (hc : P.cellsOf t = sz) (ho : OpensF P fs.toList 0 sz tb wb) (hla : ∀ y, (ta y).length = sz) (hfg : ∀ y, ta (g y) = tb y) (hwf : ∀ y, wb y → wa (g y)) :
    Opens P t sz ta wa := by
  refine ⟨hla, hc, ?_⟩
  intro H enc w spare fuel cs x h hw
  cases fuel with
  | zero => simp [DataW.trod] at h
  | succ fuel =>
    unfold DataW.trod at h
    rw [hu] at h
    split at h <;> try (simp_all; done)
    rename_i h1
    cases h1
    split at h
    · rename_i hl
      simp only [Option.map_eq_some_iff] at h
      obtain ⟨xs, h2, rfl⟩ := h
      simp only [DataW.weights, hu] at hw
      obtain ⟨y, k1, w1⟩ := ho.2 H enc w spare fuel _ xs h2 hw
      rw [List.drop_zero, ← hc, ← hl, List.take_length] at k1
      exact ⟨g y, by rw [hfg]; exact k1, hwf y w1⟩
    · simp at h
/-- An argument of a law. -/
theorem opens_arg {H : Type} {enc : TypeId × Value → H} {P : Program} {α : Type} {t : TypeId} {sz : Nat} {tell : α → List PV} {wf : α → Prop} (ho : Opens P t sz tell wf) {w : World} {v : Value} {x : DataW H} {ps : List MemPlace} {ts : List TypeId} {ds : List (DataW H)} {j : Nat}
    (h : DataW.Trod enc P w 0 (fun _ => true) true t v x ps) (hsz : (DataW.weightsEach P ts ds).all (· ≤ reachBytes) = true) (ht : ts[j]? = some t) (hd : ds[j]? = some x) : ∃ y, RepC w (tell y) v.cells.toList ∧ wf y := by
  obtain ⟨fuel, h⟩ := h
  exact ho.2.2 H enc w _ fuel _ (x, ps) h (List.all_eq_true.2 fun z hz => List.all_eq_true.1 hsz z (DataW.weights_mem_each ht hd z hz))
def No : Nat → Prop := fun _ => False
theorem mine_no {ρ : Nat → Value} {k : Nat} : ¬ Mine No [] ρ k := fun h => h.elim (fun h => h) fun ⟨b, ⟨x, hx, _⟩, _⟩ => by simp at hx
theorem arg_agg {w : World} {ρ : Nat → Value} {ps : List PV} {cs : Array Value} (h : RepC w ps (Value.agg cs).cells.toList) : Rep No w [] ρ (.agg ps) (.agg cs) := by
  rw [show (Value.agg cs).cells = cs from rfl] at h
  obtain ⟨h1, h2, h3⟩ := h
  refine .im (.agg (by simpa using h1) (fun i p v hp hv => (h2 i p v hp (by simpa using hv)).sub fun k hk => mine_no hk) fun v hv => h3 v (by simpa using hv))
theorem arg_one {w : World} {ρ : Nat → Value} {p : PV} {v : Value} (h : RepC w [p] [v]) : Rep No w [] ρ p v := .im ((h.2.1 0 p v rfl rfl).sub fun k hk => mine_no hk)
/-- A law that answers true, whatever it is asked. -/
theorem law_of {P : Program} {f : FuncId} {args : List PV} {vs : Array Value} {W : World} (h : ∀ Q : PV → Mem → Prop, Q (.val (.bool true)) [] → Does P f args [] 0 Q) (hl : args.length = vs.size) (hr : ∀ (i : Nat) (p : PV) (v : Value), args[i]? = some p → vs[i]? = some v → Rep No W [] (fun _ => undef) p v) :
    Calls P f vs W fun e W' => e = .returned (.bool true) ∧ Go.RowKit.Below W.heap.size W W' := by
  have h1 := Does.run (h (fun r m' => r = .val (.bool true)) rfl) (M := No) (w := W) (vs := vs) (ρ := fun _ => undef) (fun k hk => hk.elim) ⟨fun b x hx => by simp at hx, fun b b' k hb => by obtain ⟨x, hx, _⟩ := hb; simp at hx, fun b k hb => by obtain ⟨x, hx, _⟩ := hb; simp at hx⟩ hl hr
  refine h1.mono fun e w' ⟨v, r, m', ρ', he, hq, hf, hv, _⟩ => ?_
  subst hq
  rw [he, hv.val_eq]
  exact ⟨rfl, hf.os, hf.tape, hf.output, hf.size, fun k hk => hf.block k hk fun ⟨b, ⟨x, hx, _⟩, _⟩ => by simp at hx⟩
end Go.V
