import Derived.Test.YtfmhmlijnidflaaV5
import Derived.Great.BuildSlice
import Derived.Laws.MakeOwn
import Derived.Laws.OwnMore
set_option linter.unusedVariables false
set_option linter.unusedSimpArgs false
namespace Go.V
open Go
section
variable {c : Cx} {P : Program} {M M' : Nat → Prop} {w0 w w' : World} {S : Nat → Prop} {N : Nat} {tm : Tm} {m m' : Mem} {ρ ρ' : Nat → Value} {a : Act}
/-- A value, cell by cell. -/
def CellsOf (M : Nat → Prop) (w : World) (m : Mem) (ρ : Nat → Value) (v : Value) (cs : List PV) : Prop := cs.length = v.cells.size ∧ (∀ (j : Nat) (p : PV) (u : Value), cs[j]? = some p → v.cells[j]? = some u → Rep M w m ρ p u) ∧ ∀ u ∈ v.cells, u.oneCell' = true
theorem CellsOf.one {v : Value} {p : PV} (h : Rep M w m ρ p v) (h1 : v.oneCell' = true) : CellsOf M w m ρ v [p] := by
  have e : v.cells = #[v] := by cases v <;> first | rfl | simp [Value.oneCell'] at h1
  refine ⟨by simp [e], fun j q u hq hu => ?_, fun u hu => by rw [e] at hu; simp at hu; rw [hu]; exact h1⟩
  rw [e] at hu
  cases j with
  | zero => simp at hq hu; rw [← hq, ← hu]; exact h
  | succ j => simp at hq
theorem cells_sound (hb : ∀ b x, m[b]? = some x → BlkOk P M w m ρ (ρ b) x) {p : PV} {v : Value} {K : List PV → Prop} (hp : Rep M w m ρ p v) (h : cells p K) : ∃ cs, K cs ∧ CellsOf M w m ρ v cs := by
  unfold cells at h
  split at h
  · rename_i cs
    refine ⟨cs, h, ?_⟩
    cases hp with
    | im hi => cases hi with
      | agg hl h1 h2 => exact ⟨hl, fun j p u hp hu => .im (h1 j p u hp hu), h2⟩
    | agg hl h1 h2 => exact ⟨hl, h1, h2⟩
  · obtain ⟨h1, h⟩ := h
    have := hp.val_eq; subst this
    exact ⟨_, h, .one hp h1⟩
  · cases h
  · cases h
  · rename_i h1 h2 h3 h4
    refine ⟨_, h, .one hp ?_⟩
    cases hp with
    | im hi => cases hi with
      | val => exact (h2 _ rfl).elim
      | any => exact (h3 rfl).elim
      | agg => exact (h1 _ rfl).elim
      | tup => exact (h4 _ rfl).elim
      | sl => rfl
      | fn => rfl
    | own hm => obtain ⟨A, c, sz, hv, _⟩ := (hb _ _ hm).rowAt; rw [hv]; rfl
    | osl0 => rfl
    | osl => rfl
    | adr => rfl
    | ead => rfl
    | cad => rfl
    | agg => exact (h1 _ rfl).elim
    | tup => exact (h4 _ rfl).elim
    | fn => rfl
variable {np : Nat} {lent : FuncId → Bool} {kp : Value → Tm → Mem → Prop} {d : Option Tmp} {ty : TypeId} {pos : String} {af : Array Edge} {g : Option (Nat × Bool)} {k : Tm → Mem → Prop} {Q : Exit → Act → World → Prop}
theorem heap_old (w : World) (o : Obj) : ∀ k, k < w.heap.size → (w.alloc o).heap[k]? = w.heap[k]? := fun k hk => heap_alloc_old w o k hk
theorem s_box (h : Inv c tm m ρ a w) (hd : ∀ t, d = some t → t < c.N) {t : TypeId} {x : Operand} (hs : step c.P np lent kp tm m d ty k (.box t x)) : Oper.wp c.P ⟨d, .box t x, ty, pos, af, g⟩ a w (Then c k) Q := by
  simp only [step] at hs
  obtain ⟨cs, hk, hl, hc, h1⟩ := cells_sound h.blk (h.ev x) hs
  refine wp_value (v := .pointer (some ⟨w.heap.size, 0, none⟩)) (w' := w.alloc (.cells (a.eval x).cells t)) (by simp [execOp, Instr.box, newVar, newRow]) ?_
  have hu : ∀ k, own1 (.pointer (some ⟨w.heap.size, 0, none⟩)) = some k → w.heap.size ≤ k := by intro k hk; simp [own1] at hk; omega
  refine ⟨_, _, _, hk, h.lay hd (by simp) (heap_old w _) rfl rfl rfl hu (.var (heap_alloc_new w _) hl (fun j p u hp hu' => (hc j p u hp hu').lay (Mv.alloc _ w _) hu) h1) (.adr (cs := cs) (by rw [lay_get, if_pos rfl]) (if_pos rfl))⟩
theorem zeroOf_eq {t : TypeId} {zs : List Value} (h : zeroOf P t = some zs) : ∃ i z, P.info? t = some i ∧ i.zero = some z ∧ z.cells.toList = zs ∧ ∀ u ∈ z.cells, okC u = true := by
  unfold zeroOf at h
  split at h
  · rename_i z hz
    split at h
    · rename_i h1
      cases h
      cases hi : P.info? t with
      | none => rw [hi] at hz; cases hz
      | some i => rw [hi] at hz; exact ⟨i, z, rfl, hz, rfl, fun u hu => List.all_eq_true.1 h1 u (Array.mem_toList_iff.2 hu)⟩
    · cases h
  · cases h
theorem s_alloc (h : Inv c tm m ρ a w) (hd : ∀ t, d = some t → t < c.N) {t : TypeId} (hs : step c.P np lent kp tm m d ty k (.alloc t)) : Oper.wp c.P ⟨d, .alloc t, ty, pos, af, g⟩ a w (Then c k) Q := by
  simp only [step] at hs
  obtain ⟨zs, hz, hs⟩ := onS_e hs
  · obtain ⟨i, z, hi, hzero, rfl, h1⟩ := zeroOf_eq hz
    refine wp_value (v := .pointer (some ⟨w.heap.size, 0, none⟩)) (w' := w.alloc (.cells z.cells t)) (by simp [execOp, Instr.alloc, zeroValue, typeInfo, hi, hzero, newVar, newRow]) ?_
    have hu : ∀ k, own1 (.pointer (some ⟨w.heap.size, 0, none⟩)) = some k → w.heap.size ≤ k := by intro k hk; simp [own1] at hk; omega
    refine ⟨_, _, _, hs, h.lay hd (by simp) (heap_old w _) rfl rfl rfl hu (.var (heap_alloc_new w _) (by simp) (fun j p u hp hu' => ?_) (fun u hu => okC_one (h1 u hu))) (.adr (cs := z.cells.toList.map .val) (by rw [lay_get, if_pos rfl]) (if_pos rfl))⟩
    rw [List.getElem?_map, Array.getElem?_toList, hu'] at hp
    cases hp
    exact .im (.val (okC_ok (h1 u (Array.mem_of_getElem? hu'))))
theorem s_nilCheck (h : Inv c tm m ρ a w) (hd : ∀ t, d = some t → t < c.N) {x : Operand} (hs : step c.P np lent kp tm m d ty k (.nilCheck x)) : Quiet c.P ⟨d, .nilCheck x, ty, pos, af, g⟩ a w (Then c k) := by
  simp only [step] at hs
  unfold onPtr at hs
  have hx := h.ev x
  have go : ∀ vx, a.eval x = vx → (∃ A : Addr, vx = .pointer (some A)) → (execOp a.eval ⟨d, .nilCheck x, ty, pos, af, g⟩).run c.P w = .ok (.value vx) w := by
    rintro vx hq ⟨A, rfl⟩
    simp [execOp, hq]
  generalize hq : a.eval x = vx at hx
  split at hs
  · rename_i b i he
    rw [he] at hx
    exact q_value (go vx hq (by cases hx with | im hi => cases hi | adr => exact ⟨_, rfl⟩)) (h.then hd hx hs)
  · rename_i b i j he
    rw [he] at hx
    exact q_value (go vx hq (by cases hx with | im hi => cases hi | ead => exact ⟨_, rfl⟩)) (h.then hd hx hs)
  · rename_i cs he
    rw [he] at hx
    exact q_value (go vx hq (by cases hx with | im hi => cases hi | cad => exact ⟨_, rfl⟩)) (h.then hd hx hs)
  · cases hs
theorem rowSize_eq {e : TypeId} {z : Nat} (h : rowSize P e = some z) : ∃ i zv, P.info? e = some i ∧ i.zero = some zv ∧ zv.cells.size = i.size ∧ 0 < i.size ∧ i.size ≤ 10000 ∧ i.bytes ≤ 100000 ∧ i.size = z := by
  unfold rowSize at h
  split at h
  · rename_i i hi
    split at h
    · rename_i zv hz
      split at h
      · rename_i hc; cases h; exact ⟨i, zv, hi, hz, hc.1, hc.2.1, hc.2.2.1, hc.2.2.2, rfl⟩
      · cases h
    · cases h
  · cases h
theorem Fit.len {e : TypeId} {es : List (List PV)} {i : TypeInfo} (h : Fit P e es) (hi : rowSize P e = some i.size) : ∀ x ∈ es, x.length = i.size := fun x hx => by
  have := (h x hx).1; rw [hi] at this; exact (Option.some.inj this).symm
theorem Fit.flat {e : TypeId} {es : List (List PV)} (h : Fit P e es) : flatT P e = true → ∀ x ∈ es, ∀ p ∈ x, flatP p = true := fun hf x hx => (h x hx).2.2 hf
theorem s_assign (h : Inv c tm m ρ a w) (hd : ∀ t, d = some t → t < c.N) {x : Operand} (hs : step c.P np lent kp tm m d ty k (.assign x)) : Quiet c.P ⟨d, .assign x, ty, pos, af, g⟩ a w (Then c k) := by
  refine q_value (v := a.eval x) rfl ?_
  unfold step at hs
  split at hs
  any_goals (rename_i heq; cases heq; done)
  · rename_i heq
    cases heq
    obtain ⟨e, he, hs⟩ := onS_e hs
    · obtain ⟨z, hz, hs⟩ := onS_e hs
      · obtain ⟨i, zv, hi, hzv, hzs, h0, _, hby, rfl⟩ := rowSize_eq hz
        exact ⟨_, _, _, hs, h.lay hd (Nat.le_refl _) (fun _ _ => rfl) rfl rfl rfl (fun k hk => by simp [Act.eval, own1] at hk) (.row (xs := []) hi hzv hzs h0 hby (by simp) ⟨by simp, .inl ⟨rfl, rfl⟩⟩ (by simp) (fun _ e he => by cases he) (fun q j x p hq => by simp at hq) (by simp)) .laid⟩
  · rename_i heq
    cases heq
    exact h.then hd (h.ev _) hs
  · cases hs
theorem partCells_sound (hb : ∀ b x, m[b]? = some x → BlkOk P M w m ρ (ρ b) x) : ∀ (ps : List PV) (vs : List Value) (K : List (List PV) → Prop), ps.length = vs.length → (∀ (i : Nat) (p : PV) (v : Value), ps[i]? = some p → vs[i]? = some v → Rep M w m ρ p v) → partCells ps K →
    ∃ es, K es ∧ es.length = vs.length ∧ ∀ (q : Nat) (x : List PV) (v : Value), es[q]? = some x → vs[q]? = some v → CellsOf M w m ρ v x
  | [], [], K, _, _, h => ⟨[], h, rfl, fun q x v hx => by simp at hx⟩
  | p :: ps, v :: vs, K, hl, hr, h => by
    rw [partCells] at h
    obtain ⟨c, h, hc⟩ := cells_sound hb (hr 0 p v rfl rfl) h
    obtain ⟨es, h, hl2, he⟩ := partCells_sound hb ps vs _ (by simpa using hl) (fun i p v hp hv => hr (i + 1) p v (by simpa using hp) (by simpa using hv)) h
    refine ⟨_, h, by simp [hl2], fun q x u hx hu => ?_⟩
    cases q with
    | zero => simp at hx hu; subst hx; subst hu; exact hc
    | succ q => simp at hx hu; exact he q x u hx hu
  | [], v :: vs, K, hl, _, h => by simp at hl
  | p :: ps, [], K, hl, _, h => by simp at hl
theorem CellsOf.get {v : Value} {cs : List PV} (h : CellsOf M w m ρ v cs) {j : Nat} {p : PV} (hj : cs[j]? = some p) : ∃ u, v.cells[j]? = some u ∧ Rep M w m ρ p u ∧ u.oneCell' = true := by
  have hlt := lt_of_get hj
  have hlt2 : j < v.cells.size := by rw [← h.1]; exact hlt
  exact ⟨v.cells[j], Array.getElem?_eq_getElem hlt2, h.2.1 j p _ hj (Array.getElem?_eq_getElem hlt2), h.2.2 _ (Array.getElem_mem hlt2)⟩
theorem zip_parts (ev : Operand → Value) : ∀ (l : List (Nat × Operand)) (i : Nat), seqFrom i l = true → l.map (fun x => (x.1, ev x.2)) = ((l.map fun x => ev x.2).zipIdx i).map fun x => (x.2, x.1)
  | [], i, _ => by simp
  | (j, x) :: l, i, h => by
    simp only [seqFrom, Bool.and_eq_true, beq_iff_eq] at h
    simp only [List.map_cons, List.zipIdx_cons, h.1, zip_parts ev l (i + 1) h.2]
theorem build_run {t e : TypeId} {i : TypeInfo} {zv : Value} (hu : P.underlying t = some (.slice e)) (hi : P.info? e = some i) (hz : i.zero = some zv) (h0 : 0 < i.size) (hzs : zv.cells.size = i.size) {l : List (Nat × Value)} {vs : List Value} (hl : l = (vs.zipIdx 0).map fun x => (x.2, x.1)) (hv : ∀ v ∈ vs, v.cells.size = i.size) (hn : vs.length * i.size ≤ 2 ^ 24) (w : World) :
    (Instr.buildSlice t vs.length l.toArray).run P w = .ok (.slice (some ⟨w.heap.size, 0, none⟩) vs.length vs.length) (w.alloc (.cells (vs.flatMap fun v => v.cells.toList).toArray e)) := by
  by_cases hv0 : vs = []
  · subst hv0
    subst hl
    simp [Instr.buildSlice, run_underlying hu, sizeOf, typeInfo, hi, Instr.fill, newRow]
    congr 2
    apply Array.ext'
    rw [Array.toList_map, Array.toList_range]
    rfl
  · have : 0 < vs.length := List.length_pos_iff.2 hv0
    have hp : 0 < vs.length * i.size := Nat.mul_pos this h0
    refine run_buildSlice w t e vs.length _ _ i zv hu hi hz (by omega) (by omega) ?_
    subst hl
    exact Great.fill_whole h0 vs _ hv (by simp)
theorem s_buildSlice (h : Inv c tm m ρ a w) (hd : ∀ t, d = some t → t < c.N) {t : TypeId} {n : Nat} {parts : Array (Nat × Operand)} (hs : step c.P np lent kp tm m d ty k (.buildSlice t n parts)) : Oper.wp c.P ⟨d, .buildSlice t n parts, ty, pos, af, g⟩ a w (Then c k) Q := by
  simp only [step] at hs
  obtain ⟨e, he, hs⟩ := onS_e hs
  · obtain ⟨z, hz, hs⟩ := onS_e hs
    · obtain ⟨⟨hn, hn1000, hseq⟩, hs⟩ := hs
      · obtain ⟨i, zv, hi, hzv, hzs, h0, hz4, hby, rfl⟩ := rowSize_eq hz
        generalize hps : parts.toList.map (fun x => ev tm x.2) = ps at hs
        have h' := h.frz (idss ps)
        have hrep : ∀ (q : Nat) (p : PV) (v : Value), (ps.map (frz1 (idss ps) m))[q]? = some p → (parts.toList.map fun x => a.eval x.2)[q]? = some v → Rep c.M w (frzM (idss ps) m 0 m) ρ p v := by
          intro q p v hp hv
          subst hps
          rw [List.map_map, List.getElem?_map] at hp
          rw [List.getElem?_map] at hv
          obtain ⟨x, hx, rfl⟩ := Option.map_eq_some_iff.1 hp
          rw [hx] at hv
          cases hv
          exact h.frz1 _ (h.ev x.2)
        obtain ⟨es, ⟨hfit, hs⟩, hel, hes⟩ := partCells_sound h'.blk (ps.map (frz1 (idss ps) m)) (parts.toList.map fun x => a.eval x.2) _ (by subst hps; simp) hrep hs
        have hsz := hfit.len hz
        generalize hvs : (parts.toList.map fun x => a.eval x.2) = vs at hel hes
        have hvn : vs.length = n := by subst hvs; simp [hn]
        have hsv : ∀ v ∈ vs, v.cells.size = i.size := by
          intro v hv
          obtain ⟨q, hq⟩ := List.getElem?_of_mem hv
          have hlt := lt_of_get hq
          have hx : es[q]? = some (es[q]'(by omega)) := List.getElem?_eq_getElem (by omega)
          rw [← (hes q _ v hx hq).1]
          exact hsz _ (List.mem_of_getElem? hx)
        have hlen : (vs.flatMap fun v => v.cells.toList).length = vs.length * i.size := by
          clear hes hvn hel hvs
          induction vs with
          | nil => simp
          | cons v vs ih =>
            rw [List.flatMap_cons, List.length_append, ih (fun u hu => hsv u (List.mem_cons_of_mem _ hu)), Array.length_toList, hsv v List.mem_cons_self, List.length_cons, Nat.add_mul, Nat.one_mul, Nat.add_comm]
        have hcell : ∀ (q j : Nat) (x : List PV) (p : PV), es[q]? = some x → x[j]? = some p → ∃ u, (vs.flatMap fun v => v.cells.toList)[q * i.size + j]? = some u ∧ Im w (Mine c.M (frzM (idss ps) m 0 m) ρ) p u ∧ u.oneCell' = true := by
          intro q j x p hq hj
          have hlt := lt_of_get hq
          have hv : vs[q]? = some (vs[q]'(by omega)) := List.getElem?_eq_getElem (by omega)
          have hco := hes q x _ hq hv
          have hxl := hsz x (List.mem_of_getElem? hq)
          have hpu := (hfit x (List.mem_of_getElem? hq)).2.1
          have hjlt : j < i.size := by rw [← hxl]; exact lt_of_get hj
          obtain ⟨u, hu, hr, h1⟩ := hco.get hj
          refine ⟨u, ?_, hr.pure (pures_get hpu hj), h1⟩
          rw [Great.flat_get h0 vs hsv, show (q * i.size + j) / i.size = q by rw [Nat.mul_comm, Nat.mul_add_div h0, Nat.div_eq_of_lt hjlt, Nat.add_zero], show (q * i.size + j) % i.size = j by rw [Nat.mul_comm, Nat.mul_add_mod, Nat.mod_eq_of_lt hjlt], hv]
          exact hu
        have hone : ∀ u ∈ (vs.flatMap fun v => v.cells.toList), u.oneCell' = true := by
          intro u hu
          obtain ⟨v, hv, hu⟩ := List.mem_flatMap.1 hu
          obtain ⟨q, hq⟩ := List.getElem?_of_mem hv
          have hlt := lt_of_get hq
          have hx : es[q]? = some (es[q]'(by omega)) := List.getElem?_eq_getElem (by omega)
          exact (hes q _ v hx hq).2.2 u (Array.mem_toList_iff.1 hu)
        have hmul : vs.length * i.size ≤ 1000 * 10000 := Nat.mul_le_mul (by omega) hz4
        have hrun := build_run (P := c.P) (elemOf_eq he) hi hzv h0 hzs (l := parts.toList.map fun x => (x.1, a.eval x.2)) (vs := vs) (by subst hvs; exact zip_parts a.eval parts.toList 0 hseq) hsv (by omega) w
        have hu : ∀ k, own1 (.slice (some ⟨w.heap.size, 0, none⟩) vs.length vs.length) = some k → w.heap.size ≤ k := by intro k hk; simp [own1] at hk; omega
        refine wp_value (v := .slice (some ⟨w.heap.size, 0, none⟩) vs.length vs.length) (w' := w.alloc (.cells (vs.flatMap fun v => v.cells.toList).toArray e)) ?_ ?_
        · have e1 : (parts.map fun x => (x.1, a.eval x.2)) = (parts.toList.map fun x => (x.1, a.eval x.2)).toArray := by rw [← Array.toList_map, Array.toArray_toList]
          rw [← e1, hvn] at hrun
          simp only [execOp, Sem.run_bind]
          rw [hrun, hvn]; rfl
        · have hml : (frzM (idss ps) m 0 m).length = m.length := frzM_length _ _ _ _
          rw [← hml] at hs
          refine ⟨_, _, _, hs, h'.lay hd (by simp) (heap_old w _) rfl rfl rfl hu (.row (xs := vs.flatMap fun v => v.cells.toList) hi hzv hzs h0 hby (by omega) ⟨by rw [hlen, hel], .inr ⟨w.heap.size, vs.length, _, by rw [hel], Nat.zero_le _, heap_alloc_new w _, by omega, by simp only [maxLen]; omega, by simpa using hlen, by rw [hel, ← hlen]; exact List.take_length⟩⟩ hsz hfit.flat (fun q j x p hq hj => ?_) hone) .laid⟩
          obtain ⟨u, h1, h2, _⟩ := hcell q j x p hq hj
          exact ⟨u, h1, h2.move (Mv.alloc _ w _) (fun k hk hm => mine_lay hu hk hm)⟩
theorem made_get {z : Array Value} {n i : Nat} (hz : z.size = i) (h0 : 0 < i) {q j : Nat} (hq : q < n) (hj : j < i) : (madeCells z (n * i)).toList[q * i + j]? = z[j]? := by
  have hlt : q * i + j < n * i := by
    have := Nat.mul_le_mul_right i (show q + 1 ≤ n by omega)
    rw [Nat.add_mul, Nat.one_mul] at this; omega
  simp only [madeCells]
  rw [Array.toList_map, Array.toList_range, List.getElem?_map, List.getElem?_range hlt, Option.map_some, hz, Nat.mul_comm q i, Nat.mul_add_mod, Nat.mod_eq_of_lt hj]
  rw [getElem!_pos z j (by omega), Array.getElem?_eq_getElem (by omega)]
theorem s_makeSlice (h : Inv c tm m ρ a w) (hd : ∀ t, d = some t → t < c.N) {t : TypeId} {l u : Operand} (hs : step c.P np lent kp tm m d ty k (.makeSlice t l u)) : Oper.wp c.P ⟨d, .makeSlice t l u, ty, pos, af, g⟩ a w (Then c k) Q := by
  simp only [step] at hs
  obtain ⟨e, he, hs⟩ := onS_e hs
  · obtain ⟨z, hz, hs⟩ := onS_e hs
    · obtain ⟨zs, hzo, hs⟩ := onS_e hs
      obtain ⟨k1, n, hl, hs⟩ := onInt_e hs
      obtain ⟨k2, n2, hu, hs⟩ := onInt_e hs
      · have hlv := (hl ▸ h.ev l : Rep c.M w m ρ (.val (.int k1 n)) (a.eval l)).val_eq
        have huv := (hu ▸ h.ev u : Rep c.M w m ρ (.val (.int k2 n2)) (a.eval u)).val_eq
        obtain ⟨⟨hn0, hnu, hu9⟩, hflat, hs⟩ := hs
        · obtain ⟨i, zv, hi, hzv, hzs, h0, hz4, hby, rfl⟩ := rowSize_eq hz
          obtain ⟨i', z', hi', hzv', rfl, hone⟩ := zeroOf_eq hzo
          rw [hi] at hi'; cases hi'
          rw [hzv] at hzv'; cases hzv'
          have hbytes : (i.bytes : Int) * n2 ≤ 281474976710656 := by
            have h1 : (i.bytes : Int) * n2 ≤ (100000 : Int) * n2 := Int.mul_le_mul_of_nonneg_right (by omega) (by omega)
            omega
          have hrun := run_make (P := c.P) w t e i zv (elemOf_eq he) hi hzv k1 k2 n n2 hn0 hnu hbytes (by omega)
          have hown : ∀ k, own1 (.slice (some ⟨w.heap.size, 0, none⟩) n.toNat n2.toNat) = some k → w.heap.size ≤ k := by intro k hk; simp [own1] at hk; omega
          have hsize : (madeCells zv.cells (n2.toNat * i.size)).size = n2.toNat * i.size := by simp [madeCells]
          have hmul : n.toNat * i.size ≤ n2.toNat * i.size := Nat.mul_le_mul_right _ (by omega)
          refine wp_value (v := .slice (some ⟨w.heap.size, 0, none⟩) n.toNat n2.toNat) (w' := w.alloc (.cells (madeCells zv.cells (n2.toNat * i.size)) e)) (by simp [execOp, hlv, huv, hrun]) ⟨_, _, _, hs, h.lay hd (by simp) (heap_old w _) rfl rfl rfl hown (.row (xs := (madeCells zv.cells (n2.toNat * i.size)).toList.take (n.toNat * i.size)) hi hzv hzs h0 hby (by simp; omega) ⟨by rw [List.length_take, Array.length_toList, hsize, List.length_replicate]; omega, .inr ⟨w.heap.size, n2.toNat, _, by rw [List.length_replicate], Nat.zero_le _, heap_alloc_new w _, by rw [List.length_replicate]; omega, by simp only [maxLen]; omega, hsize, by rw [List.length_replicate]⟩⟩ (fun x hx => by rw [List.eq_of_mem_replicate hx]; simpa using hzs) (fun hf x hx p hp => ?_) (fun q j x p hq hj => ?_) (fun v hv => ?_)) .laid⟩
          · rw [List.eq_of_mem_replicate hx] at hp
            obtain ⟨y, hy, rfl⟩ := List.mem_map.1 hp
            have := List.all_eq_true.1 hflat y hy
            rw [hf] at this; simpa using this
          · have hql := lt_of_get hq
            rw [List.length_replicate] at hql
            have hx := List.eq_of_mem_replicate (List.mem_of_getElem? hq)
            subst hx
            rw [List.getElem?_map] at hj
            obtain ⟨y, hy, rfl⟩ := Option.map_eq_some_iff.1 hj
            have hjl := lt_of_get hy
            rw [Array.length_toList, hzs] at hjl
            refine ⟨y, ?_, .val (okC_ok (hone y (Array.mem_toList_iff.1 (List.mem_of_getElem? hy))))⟩
            have hlt : q * i.size + j < n.toNat * i.size := by
              have := Nat.mul_le_mul_right i.size (show q + 1 ≤ n.toNat by omega)
              rw [Nat.add_mul, Nat.one_mul] at this; omega
            rw [List.getElem?_take, if_pos hlt, made_get hzs h0 (by omega) hjl, ← hy, Array.getElem?_toList]
          · have hv' := List.mem_of_mem_take hv
            simp only [madeCells] at hv'
            rw [Array.toList_map, Array.toList_range] at hv'
            obtain ⟨q, _, rfl⟩ := List.mem_map.1 hv'
            have hlt : q % zv.cells.size < zv.cells.size := Nat.mod_lt _ (by omega)
            rw [getElem!_pos zv.cells _ hlt]
            exact okC_one (hone _ (Array.getElem_mem hlt))
end
end Go.V
