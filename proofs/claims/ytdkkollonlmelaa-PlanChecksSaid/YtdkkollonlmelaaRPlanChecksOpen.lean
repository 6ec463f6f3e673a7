-- Written by this session's own program (wip/tools/prune_decl.py): the words that law PlanChecks comes to
/- How Go's data, read from memory, lie as values of the print's kinds: numbers, bools, strings, slices and structs, one in another. Lemmas alone. -/
import Derived.Carry
import Derived.SizedLaws
import Derived.DataReads
import Derived.DataElems
import Derived.WideShapes
import Derived.ChangeShapes
import Derived.Test.YtdkkollonlmelaaRPlanChecksWWords
namespace Go.Proofs.Ytdkkollonlmelaa.Open
open Go.RowKit Go.Proofs.YtdkkollonlmelaaW.PrintWords Go.ChangeShapes Go.WideShapes
def Opens {α : Type} (P : Program) (t : TypeId) (d : Kd α) (wf : α → Prop) : Prop :=
 ∀ (H : Type) (enc : TypeId × Value → H) (w : World) (spare : Nat → Bool) (fuel : Nat) (cs : List Value) (x : DataW H × List MemPlace), DataW.trod enc P w 0 spare true fuel t cs = some x → (DataW.weights P t x.1).all (· ≤ reachBytes) = true → ∃ y, d.K w y cs ∧ wf y
theorem opens_int {P : Program} {t : TypeId} {k : IntKind} (hu : P.underlying t = some (.int k)) : Opens P t (Kd.int k) (fun n => (Lit.int k n).wf = true) := by
 intro H enc w spare fuel cs x h _
 cases fuel with
 | zero => simp [DataW.trod] at h
 | succ fuel =>
  unfold DataW.trod at h
  rw [hu] at h
  split at h <;> try (simp_all; done)
  split at h
  ·rename_i h1 h2 h3
   obtain ⟨h4, h5⟩ := h3
   cases h2
   subst h4
   exact ⟨h1, rfl, h5⟩
  ·simp at h
theorem opens_string {P : Program} {t : TypeId} (hu : P.underlying t = some .string) : Opens P t Kd.string (fun s => s.size ≤ 140737488351232) := by
 intro H enc w spare fuel cs x h hw
 cases fuel with
 | zero => simp [DataW.trod] at h
 | succ fuel =>
  unfold DataW.trod at h
  rw [hu] at h
  split at h <;> try (simp_all; done)
  split at h
  ·simp only [Option.some.injEq] at h
   subst h
   refine ⟨_, rfl, ?_⟩
   simp only [DataW.weights, List.all_cons, List.all_nil, Bool.and_true, reachBytes] at hw
   rw [Array.length_toList] at hw
   exact of_decide_eq_true hw
  ·simp at h
theorem weightsAll_mem {H : Type} {P : Program} {e : TypeId} : ∀ {l : List (DataW H)} {d : DataW H}, (DataW.weightsAll P e l).all (· ≤ reachBytes) = true → d ∈ l → (DataW.weights P e d).all (· ≤ reachBytes) = true
 | [], _, _, hd => by simp at hd
 | a :: l, d, h, hd => by
  simp only [DataW.weightsAll, List.all_append, Bool.and_eq_true] at h
  rcases List.mem_cons.1 hd with rfl | hd
  ·exact h.1
  ·exact weightsAll_mem h.2 hd
theorem chosen {α β : Type} {R : α → β → Prop} : ∀ (n : Nat) (f : Nat → β), (∀ i, i < n → ∃ y, R y (f i)) → ∃ l : List α, l.length = n ∧ ∀ j p, l[j]? = some p → R p (f j)
 | 0, _, _ => ⟨[], rfl, fun j p h => by simp at h⟩
 | n + 1, f, h => by
  obtain ⟨l, hl, hr⟩ := chosen n f (fun i hi => h i (by omega))
  obtain ⟨y, hy⟩ := h n (by omega)
  refine ⟨l ++ [y], by simp [hl], fun j p hj => ?_⟩
  by_cases hlt : j < l.length
  ·rw [List.getElem?_append_left hlt] at hj
   exact hr j p hj
  ·have hjn : j = n := by
    have := (List.getElem?_eq_some_iff.1 hj).1
    simp at this
    omega
   subst hjn
   rw [List.getElem?_append_right (by omega), hl, Nat.sub_self] at hj
   simp at hj
   subst hj
   exact hy
theorem opens_slice {α : Type} {P : Program} {t e : TypeId} {B : Nat} {d : Kd α} {wf : α → Prop} (hu : P.underlying t = some (.slice e)) (hc : P.cellsOf e = d.sz) (hb : P.bytesOf e = B) (ho : Opens P e d wf) :
  Opens P t (Kd.slice e d) (fun l => l.length ≤ 9223372036854775807 ∧ l.length * B ≤ 140737488351232 ∧ ∀ y ∈ l, wf y) := by
 intro H enc w spare fuel cs x h hw
 rcases DataW.trod_slice hu h with ⟨rfl, rfl⟩ | ⟨a, len, cap, elems, rest, n, _, rfl, rfl, _, hl, hm, hlen, hel, hsp, hns⟩
 ·refine ⟨[], ⟨none, 0, rfl, by simp, ?_⟩, by simp, by simp, fun y hy => by simp at hy⟩
  exact ⟨rfl, by simp, fun h => absurd h (by simp)⟩
 ·simp only [DataW.weights, hu, List.all_cons, List.all_append, Bool.and_eq_true, decide_eq_true_eq, List.length_map] at hw
  obtain ⟨hw1, hw2, _⟩ := hw
  have hlm : len ≤ 9223372036854775807 := by unfold maxLen at hm; omega
  have each : ∀ i, i < len → ∃ y, (d.K w y ((w.cells? 0 (a.add (i * P.cellsOf e)) (P.cellsOf e)).getD []) ∧ wf y) := by
   intro i hi
   have h1 := hel i hi
   have hie : i < elems.length := by omega
   rw [List.getElem?_eq_getElem hie] at h1
   obtain ⟨c, h2, h3⟩ := Option.bind_eq_some_iff.1 h1
   rw [h2]
   exact ho H enc w spare n c _ h3 (weightsAll_mem hw2 (List.mem_map.2 ⟨_, List.getElem_mem hie, rfl⟩))
  obtain ⟨l, hll, hlr⟩ := chosen (R := fun y c => d.K w y c ∧ wf y) len (fun i => (w.cells? 0 (a.add (i * P.cellsOf e)) (P.cellsOf e)).getD []) each
  have hB : l.length * B ≤ 140737488351232 := by
   rw [hb] at hw1
   unfold reachBytes at hw1
   refine Nat.le_trans (Nat.mul_le_mul_right _ ?_) hw1
   omega
  refine ⟨l, ⟨some a, cap, by rw [hll], by omega, rfl, by omega, fun _ => ⟨a, rfl, fun j p hj => ?_⟩⟩, by omega, hB, fun y hy => ?_⟩
  ·have hjl : j < len := by have := (List.getElem?_eq_some_iff.1 hj).1; omega
   have h1 := hel j hjl
   rw [List.getElem?_eq_getElem (show j < elems.length by omega)] at h1
   obtain ⟨c, h2, _⟩ := Option.bind_eq_some_iff.1 h1
   obtain ⟨h4, _⟩ := hlr j p hj
   rw [h2] at h4
   simp only [Option.getD_some] at h4
   have hq := World.cells?_some h2
   refine ⟨c, d.K_len h4, h4, fun i u hiu => ?_⟩
   have hic : i < c.length := (List.getElem?_eq_some_iff.1 hiu).1
   have h5 := hq.2.2 i (by omega)
   rw [hiu, Addr.add_add, hc] at h5
   exact h5
  ·obtain ⟨j, hj, rfl⟩ := List.mem_iff_getElem.1 hy
   exact (hlr j _ (List.getElem?_eq_getElem hj)).2
def OpensF {α : Type} (P : Program) (fs : List Field) (off : Nat) (d : Kd α) (wf : α → Prop) : Prop :=
 ∀ (H : Type) (enc : TypeId × Value → H) (w : World) (spare : Nat → Bool) (fuel : Nat) (cs : List Value) (xs : List (DataW H × List MemPlace)),
  (fs.mapM fun f => DataW.trod enc P w 0 spare true fuel f.type ((cs.drop f.offset).take (P.cellsOf f.type))) = some xs → (DataW.weightsEach P (fs.map (·.type)) (xs.map (·.1))).all (· ≤ reachBytes) = true → ∃ y, d.K w y ((cs.drop off).take d.sz) ∧ wf y
theorem opensF_one {α : Type} {P : Program} {f : Field} {d : Kd α} {wf : α → Prop} (hc : P.cellsOf f.type = d.sz) (ho : Opens P f.type d wf) : OpensF P [f] f.offset d wf := by
 intro H enc w spare fuel cs xs h hw
 simp only [List.mapM_cons, List.mapM_nil, Option.pure_def, Option.bind_eq_bind, Option.bind_eq_some_iff, Option.some.injEq] at h
 obtain ⟨x, h1, ys, rfl, rfl⟩ := h
 simp only [List.map_cons, List.map_nil, DataW.weightsEach, List.append_nil] at hw
 rw [hc] at h1
 exact ho H enc w spare fuel _ x h1 hw
theorem opensF_cons {α β : Type} {P : Program} {f : Field} {fs : List Field} {a : Kd α} {b : Kd β} {wa : α → Prop} {wb : β → Prop} (hc : P.cellsOf f.type = a.sz) (ho : Opens P f.type a wa) (hr : OpensF P fs (f.offset + a.sz) b wb) :
  OpensF P (f :: fs) f.offset (Kd.pair a b) (fun y => wa y.1 ∧ wb y.2) := by
 intro H enc w spare fuel cs xs h hw
 simp only [List.mapM_cons, Option.pure_def, Option.bind_eq_bind, Option.bind_eq_some_iff, Option.some.injEq] at h
 obtain ⟨x, h1, ys, h2, rfl⟩ := h
 simp only [List.map_cons, DataW.weightsEach, List.all_append, Bool.and_eq_true] at hw
 rw [hc] at h1
 obtain ⟨y, k1, w1⟩ := ho H enc w spare fuel _ x h1 hw.1
 obtain ⟨z, k2, w2⟩ := hr H enc w spare fuel cs ys h2 hw.2
 refine ⟨(y, z), ⟨_, _, ?_, k1, k2⟩, w1, w2⟩
 show List.take (a.sz + b.sz) _ = _
 rw [List.take_add, List.drop_drop]
theorem opens_struct {α β : Type} {P : Program} {t : TypeId} {fs : Array Field} {d : Kd α} {f : β → α} {g : α → β} {wf : α → Prop} (hu : P.underlying t = some (.struct fs)) (hc : P.cellsOf t = d.sz) (hfg : ∀ y, f (g y) = y) (ho : OpensF P fs.toList 0 d wf) :
  Opens P t (Kd.iso d f) (fun y => wf (f y)) := by
 intro H enc w spare fuel cs x h hw
 cases fuel with
 | zero => simp [DataW.trod] at h
 | succ fuel =>
  unfold DataW.trod at h
  rw [hu] at h
  split at h <;> try (simp_all; done)
  rename_i h1
  cases h1
  split at h
  ·rename_i hl
   simp only [Option.map_eq_some_iff] at h
   obtain ⟨xs, h2, rfl⟩ := h
   simp only [DataW.weights, hu] at hw
   obtain ⟨y, k1, w1⟩ := ho H enc w spare fuel _ xs h2 hw
   rw [List.drop_zero, ← hc, ← hl, List.take_length] at k1
   refine ⟨g y, ?_, ?_⟩
   ·show d.K w (f (g y)) _
    rw [hfg]; exact k1
   ·show wf (f (g y))
    rw [hfg]; exact w1
  ·simp at h
theorem opens_arg {H : Type} {enc : TypeId × Value → H} {P : Program} {α : Type} {t : TypeId} {d : Kd α} {wf : α → Prop} (ho : Opens P t d wf) {w : World} {v : Value} {x : DataW H} {ps : List MemPlace} {ts : List TypeId} {ds : List (DataW H)} {j : Nat}
  (h : DataW.Trod enc P w 0 (fun _ => true) true t v x ps) (hsz : (DataW.weightsEach P ts ds).all (· ≤ reachBytes) = true) (ht : ts[j]? = some t) (hd : ds[j]? = some x) : ∃ y, d.K w y v.cells.toList ∧ wf y := by
 obtain ⟨fuel, h⟩ := h
 refine ho H enc w _ fuel _ (x, ps) h (List.all_eq_true.2 fun z hz => List.all_eq_true.1 hsz z (DataW.weights_mem_each ht hd z hz))
end Go.Proofs.Ytdkkollonlmelaa.Open
