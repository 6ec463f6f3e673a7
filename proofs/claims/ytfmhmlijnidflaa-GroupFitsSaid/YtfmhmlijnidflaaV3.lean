import Derived.Test.YtfmhmlijnidflaaV2
import Derived.Laws.StructEq
set_option linter.unusedVariables false
set_option linter.unusedSimpArgs false
namespace Go.V
open Go
section
variable {c : Cx} {P : Program} {M M' : Nat → Prop} {w0 w w' : World} {S : Nat → Prop} {N : Nat} {tm : Tm} {m m' : Mem} {ρ ρ' : Nat → Value} {a : Act}
/-- What follows an operation. -/
def Then (c : Cx) (k : Tm → Mem → Prop) : Act → World → Prop :=
  fun a w => ∃ tm m ρ, k tm m ∧ Inv c tm m ρ a w
theorem boolT_eq {t : TypeId} (h : boolT P t = true) : P.underlying t = some .bool := by
  unfold boolT at h
  split at h
  · assumption
  · cases h
theorem sliceT_eq {t : TypeId} (h : sliceT P t = true) : ∃ e, P.underlying t = some (.slice e) := by
  unfold sliceT at h
  split at h
  · rename_i e _; exact ⟨e, by assumption⟩
  · cases h
theorem shr32 (a : Int) (w : World) : (Op.shift .shr .u64 a .u64 32).run P w = .ok (.int .u64 (a / 4294967296)) w := by
  have : a.fdiv 4294967296 = a / 4294967296 := Int.fdiv_eq_ediv_of_nonneg a (by omega)
  simp [Op.shift, IntKind.bits, this]
theorem shr1 (a : Int) (w : World) : (Op.shift .shr .u64 a .u64 1).run P w = .ok (.int .u64 (a / 2)) w := by
  have : a.fdiv 2 = a / 2 := Int.fdiv_eq_ediv_of_nonneg a (by omega)
  simp [Op.shift, IntKind.bits, this]
theorem and32 (a : Int) (w : World) : (Op.intBits .and .u64 a 4294967295).run P w = .ok (.int .u64 (a % 4294967296)) w := by
  have h : IntKind.u64.wrap ((BitVec.ofInt 64 a &&& 4294967295#64).toNat : Int) = a % 4294967296 := by
    have e : (BitVec.ofInt 64 a &&& 4294967295#64).toNat = (BitVec.ofInt 64 a).toNat % 4294967296 := by
      rw [BitVec.toNat_and]; exact Nat.and_two_pow_sub_one_eq_mod _ 32
    rw [e, BitVec.toNat_ofInt]
    simp [IntKind.wrap, IntKind.bits, IntKind.signed]
    omega
  simp [Op.intBits, IntKind.bits]
  exact h
theorem binV_run {op : BinOp} {t : TypeId} {x y v : Value} (h : binV P t op x y = some v) (ox oy : Operand) (w : World) : (do eqGuard op t ox oy x y; binOp op t x y : Sem Value).run P w = .ok v w := by
  unfold binV at h
  split at h
  · split at h
    · rename_i k a k' b hk
      subst hk
      by_cases hs : op = .shr
      · subst hs
        dsimp only at h
        split at h
        · rename_i h1; obtain ⟨rfl, rfl⟩ := h1; cases h; simp [eqGuard, binOp, shr32]
        · split at h
          · rename_i h1; obtain ⟨rfl, rfl⟩ := h1; cases h; simp [eqGuard, binOp, shr1]
          · cases h
      cases op <;> simp at h hs <;> (first | (subst h; simp [eqGuard, binOp, Op.intArith, Op.intCmp]; done) | (obtain ⟨⟨rfl, rfl⟩, rfl⟩ := h; simp [eqGuard, binOp, and32]; done) | (obtain ⟨h1, rfl⟩ := h; simp [eqGuard, binOp, Op.intDiv, h1]; done))
    · cases h
  · split at h
    · rename_i ht
      have ht := boolT_eq ht
      cases op <;> simp at h <;> (subst h; simp [eqGuard, binOp, Op.equal, Op.maxDepth, run_equalIn_bool' _ _ _ _ _ ht, bne])
    · cases h
  · rename_i a b
    have h3 : IntKind.i64.max = 9223372036854775807 := by decide
    cases op <;> simp at h <;> (first | (subst h; simp [eqGuard, binOp, Op.stringOp]; done) | (obtain ⟨h1, rfl⟩ := h; simp [eqGuard, binOp, Op.stringOp, h3]; omega))
  · cases h
theorem unV_run {op : UnOp} {x v : Value} (h : unV op x = some v) (w : World) : (Op.unary op x).run P w = .ok v w := by
  unfold unV at h
  split at h
  · cases op <;> simp at h <;> (subst h; simp [Op.unary, Op.intArith])
  · cases op <;> simp at h <;> (subst h; simp [Op.unary])
  · cases h

/-- What is told at an address, cell by cell. -/
def Cells (M : Nat → Prop) (w : World) (m : Mem) (ρ : Nat → Value) (A : Addr) (cs : List PV) : Prop := ∀ (j : Nat) (p : PV), cs[j]? = some p → ∃ u, w.cell? (A.add j) = some u ∧ u.oneCell' = true ∧ Rep M w m ρ p u
theorem Cells.drop {A : Addr} {cs : List PV} (h : Cells M w m ρ A cs) (k : Nat) : Cells M w m ρ (A.add k) (cs.drop k) := by
  intro j p hj
  rw [List.getElem?_drop] at hj
  obtain ⟨u, h1, h2, h3⟩ := h _ _ hj
  exact ⟨u, by rw [Addr.add_add]; exact h1, h2, h3⟩
theorem BlkOk.cells_var {v : Value} {cs : List PV} (h : BlkOk P M w m ρ v (.var cs)) : ∃ g, v = .pointer (some ⟨g, 0, none⟩) ∧ Cells M w m ρ ⟨g, 0, none⟩ cs := by
  cases h with
  | var hg hl hj h1 =>
    refine ⟨_, rfl, fun j p hp => ?_⟩
    have hlt := lt_of_get hp
    rename_i g t vs
    have hv : vs[j]? = some (vs[j]'(by omega)) := Array.getElem?_eq_getElem (by omega)
    refine ⟨_, ?_, h1 _ (Array.getElem_mem (by omega)), hj j p _ hp hv⟩
    rw [add_none, Nat.zero_add]
    simp only [World.cell?, hg, Option.isSome_none, Bool.false_eq_true, if_false]
    exact hv
theorem BlkOk.cells_row {v : Value} {e : TypeId} {es : List (List PV)} (h : BlkOk P M w m ρ v (.row e es)) {i : Nat} {x : List PV} (hi : es[i]? = some x) :
    ∃ g c, v = .slice (some ⟨g, 0, none⟩) es.length c ∧ Cells M w m ρ ⟨g, i * x.length, none⟩ x := by
  cases h with
  | row hinf hz hzs h0 hby hlen ho hs hf hx h1 =>
    rename_i xs inf z
    have hlt := lt_of_get hi
    have hxl : x.length = inf.size := hs x (List.mem_of_getElem? hi)
    obtain ⟨g, c, rfl, _, _⟩ := ho.form (by omega)
    refine ⟨g, c, rfl, fun j p hp => ?_⟩
    obtain ⟨u, hu, him⟩ := hx i j x p hi hp
    refine ⟨u, ?_, h1 u (List.mem_of_getElem? hu), .im him⟩
    have := ho.cells (g := g) rfl _ u hu
    rw [add_none] at this ⊢
    rw [hxl]
    simpa [Nat.add_comm] using this
theorem at1_sound (hb : ∀ b x, m[b]? = some x → BlkOk P M w m ρ (ρ b) x) {p : PV} {v : Value} {K : List PV → Prop} (hp : Rep M w m ρ p v) (h : at1 m p K) : ∃ cs A, K cs ∧ v = .pointer (some A) ∧ Cells M w m ρ A cs := by
  unfold at1 at h
  split at h
  · rename_i b o
    obtain ⟨cs, hm, h⟩ := onVarB_e h
    cases hp with
    | im hi => cases hi
    | adr hm' hg =>
      rename_i g _
      obtain ⟨g', e, hc⟩ := (hb _ _ hm).cells_var
      rw [hg] at e
      cases e
      refine ⟨_, _, h, rfl, ?_⟩
      have := hc.drop o
      rwa [add_none, Nat.zero_add] at this
  · rename_i b i j
    obtain ⟨e, es, hm, h⟩ := onRowB_e h
    obtain ⟨x, hx, h⟩ := onS_e h
    cases hp with
    | im hi => cases hi
    | ead hm' hi hs hg =>
      rw [hm] at hm'; cases hm'
      obtain ⟨g', c, e, hc⟩ := (hb _ _ hm).cells_row hx
      rw [hg] at e
      cases e
      refine ⟨_, _, h, rfl, ?_⟩
      have := hc.drop j
      rw [hs x (List.mem_of_getElem? hx)] at this
      rwa [add_none] at this
  · rename_i cs
    cases hp with
    | im hi => cases hi
    | cad u h1 h2 => exact ⟨cs, _, h, rfl, fun j p hj => ⟨u j, (h1 j p hj).1, (h1 j p hj).2.2, .im (h2 j p hj)⟩⟩
  · cases h
theorem load_sound {t : TypeId} {A : Addr} {cs : List PV} {p : PV} (hc : Cells M w m ρ A cs) (h : loadC P t cs = some p) : ∃ v, (Instr.loadAt t (.pointer (some A))).run P w = .ok v w ∧ (loadVar t A).run P w = .ok v w ∧ Rep M w m ρ p v := by
  unfold loadC at h
  split at h
  · rename_i fs i hu hi
    split at h
    · rename_i hlen
      cases h
      have hex : ∀ j, j < i.size → ∃ u, w.cell? (A.add j) = some u ∧ u.oneCell' = true ∧ ∀ p, cs[j]? = some p → Rep M w m ρ p u := by
        intro j hj
        obtain ⟨u, h1, h2, h3⟩ := hc j _ (List.getElem?_eq_getElem (by omega : j < cs.length))
        exact ⟨u, h1, h2, fun p hp => by rw [List.getElem?_eq_getElem (by omega : j < cs.length)] at hp; cases hp; exact h3⟩
      let f : Nat → Value := fun j => if hj : j < i.size then (hex j hj).choose else undef
      have hf : ∀ j (hj : j < i.size), w.cell? (A.add j) = some (f j) ∧ (f j).oneCell' = true ∧ ∀ p, cs[j]? = some p → Rep M w m ρ p (f j) := by
        intro j hj
        simp only [f, dif_pos hj]
        exact (hex j hj).choose_spec
      have hload : (loadVar t A).run P w = .ok (.agg ((List.range i.size).map f).toArray) w := by
        simp only [loadVar, isAgg, sizeOf, typeInfo, Sem.run_bind, Sem.run_pure, Result.andThen_ok, run_underlying hu, run_program, hi, if_true]
        rw [run_loadCells w A i.size f (fun j hj => (hf j hj).1)]
        simp
      refine ⟨.agg ((List.range i.size).map f).toArray, ?_, hload, .agg (by simp; omega) (fun j p v hp hv => ?_) (fun v hv => ?_)⟩
      · simp only [Instr.loadAt, Instr.sureAddr, Sem.run_bind, Sem.run_pure, Result.andThen_ok, hload]
      · rw [List.getElem?_take] at hp
        split at hp
        · rename_i hj
          simp [hj] at hv
          subst hv
          exact (hf j hj).2.2 p hp
        · cases hp
      · simp at hv
        obtain ⟨j, hj, rfl⟩ := hv
        exact (hf j hj).2.1
    · cases h
  · cases h
  · rename_i d i hn1 hn2 hu hi
    cases cs with
    | nil => cases h
    | cons q cs =>
      cases h
      obtain ⟨u, h1, h2, h3⟩ := hc 0 p rfl
      have hag : (isAgg t).run P w = .ok false w := by
        cases d <;> simp_all [isAgg, run_underlying hu]
      have h1' : w.cell? A = some u := by simpa [Addr.add] using h1
      have hload : (loadVar t A).run P w = .ok u w := by
        simp only [loadVar, Sem.run_bind, Sem.run_pure, Result.andThen_ok, hag, Bool.false_eq_true, if_false, run_load, h1']
      refine ⟨u, ?_, hload, h3⟩
      simp only [Instr.loadAt, Instr.sureAddr, Sem.run_bind, Sem.run_pure, Result.andThen_ok, hload]
  · cases h
theorem Inv.then (h : Inv c tm m ρ a w) {d : Option Tmp} (hd : ∀ t, d = some t → t < c.N) {p : PV} {v : Value} (hp : Rep c.M w m ρ p v) {k : Tm → Mem → Prop} (hk : k (V.put tm d p) m) : Then c k (a.put d v) w :=
  ⟨_, m, ρ, hk, h.put hd hp⟩
/-- An operation that only reads. -/
def Quiet (P : Program) (o : Oper) (a : Act) (w : World) (K : Act → World → Prop) : Prop := ∃ v, (execOp a.eval o).run P w = .ok (.value v) w ∧ K (a.put o.dst v) w
theorem q_value {o : Oper} {K : Act → World → Prop} {v : Value} (h : (execOp a.eval o).run P w = .ok (.value v) w) (hn : K (a.put o.dst v) w) : Quiet P o a w K := ⟨v, h, hn⟩
theorem Quiet.wp {o : Oper} {K : Act → World → Prop} {Q : Exit → Act → World → Prop} (h : Quiet P o a w K) : o.wp P a w K Q := by
  obtain ⟨v, h1, h2⟩ := h
  exact wp_value h1 h2
/-- A row, told as it is read. -/
def RowAt (M : Nat → Prop) (w : World) (m : Mem) (ρ : Nat → Value) (v : Value) (es : List (List PV)) : Prop :=
  ∃ A c sz, v = .slice A es.length c ∧ es.length ≤ maxLen ∧ es.length ≤ c ∧ (∀ x ∈ es, x.length = sz) ∧ (A = none → es.length = 0) ∧
    (es.length = 0 ∨ ∃ ad, A = some ad ∧ ∀ (i j : Nat) (x : List PV) (p : PV), es[i]? = some x → x[j]? = some p → ∃ u, w.cell? (ad.add (i * sz + j)) = some u ∧ u.oneCell' = true ∧ Im w (Mine M m ρ) p u)
theorem BlkOk.rowAt {v : Value} {e : TypeId} {es : List (List PV)} (h : BlkOk P M w m ρ v (.row e es)) : RowAt M w m ρ v es := by
  cases h with
  | row hinf hz hzs h0 hby hlen ho hs hf hx h1 =>
    rename_i xs inf z
    rcases ho.2 with ⟨rfl, h0'⟩ | ⟨g, cap, cur, rfl, hb, hg, hc, hcm, hcs, ht⟩
    · refine ⟨none, 0, inf.size, by rw [h0'], by omega, by omega, hs, fun _ => h0', .inl h0'⟩
    · refine ⟨_, cap, inf.size, rfl, by omega, hc, hs, (fun e => by cases e), .inr ⟨_, rfl, fun i j x p hi hj => ?_⟩⟩
      obtain ⟨u, hu, him⟩ := hx i j x p hi hj
      exact ⟨u, ho.cells (g := g) rfl _ u hu, h1 u (List.mem_of_getElem? hu), him⟩
theorem part_get {es : List (List PV)} {l h q : Nat} {y : List PV} (hy : ((es.take h).drop l)[q]? = some y) : es[l + q]? = some y ∧ l + q < h := by
  rw [List.getElem?_drop, List.getElem?_take] at hy
  split at hy
  · rename_i hlt; exact ⟨hy, hlt⟩
  · cases hy
theorem BlkOk.rowAt_osl {v : Value} {e : TypeId} {es : List (List PV)} (h : BlkOk P M w m ρ v (.row e es)) {l hh n c' sz g cc : Nat} {A : Option Addr} (hl : l ≤ hh) (hhl : hh ≤ es.length) (hc : hh - l ≤ cc) (hx : cc ≤ maxLen) (hs : ∀ x ∈ es, x.length = sz) (hA : l = hh ∨ A = some ⟨g, l * sz, none⟩ ∧ v = .slice (some ⟨g, 0, none⟩) n c') :
    RowAt M w m ρ (.slice A (hh - l) cc) ((es.take hh).drop l) := by
  have hlen : ((es.take hh).drop l).length = hh - l := by simp; omega
  refine ⟨A, cc, sz, by rw [hlen], by omega, by omega, fun x hx => hs x (List.mem_of_mem_take (List.mem_of_mem_drop hx)), fun e => ?_, ?_⟩
  · rcases hA with hA | ⟨rfl, _⟩
    · omega
    · cases e
  · rcases hA with hA | ⟨rfl, rfl⟩
    · left; omega
    · by_cases hz : ((es.take hh).drop l).length = 0
      · exact .inl hz
      · right
        refine ⟨_, rfl, fun i j x p hi hj => ?_⟩
        obtain ⟨hi', _⟩ := part_get hi
        cases h with
        | row hinf hz hzs h0 hby hlen ho hs' hf hxx h1 =>
          rename_i xs inf z
          have e1 : inf.size = sz := by rw [← hs' x (List.mem_of_getElem? hi'), hs x (List.mem_of_getElem? hi')]
          subst e1
          obtain ⟨u, hu, him⟩ := hxx _ j x p hi' hj
          refine ⟨u, ?_, h1 u (List.mem_of_getElem? hu), him⟩
          have := ho.cells (g := g) rfl _ u hu
          rw [add_none, Nat.zero_add] at this
          rw [add_none]
          rw [Nat.add_mul, Nat.add_assoc] at this
          exact this
theorem row1_sound (hb : ∀ b x, m[b]? = some x → BlkOk P M w m ρ (ρ b) x) {p : PV} {v : Value} {K : List (List PV) → Prop} (hp : Rep M w m ρ p v) (h : row1 m p K) : ∃ es, K es ∧ RowAt M w m ρ v es := by
  unfold row1 at h
  split at h
  · rename_i es
    cases hp with
    | im hi =>
      cases hi with
      | sl u hn hx hc hs hA hr =>
        subst hn
        rename_i A c sz
        refine ⟨es, h, A, _, _, rfl, hx, hc, hs, fun e => ?_, ?_⟩
        · rcases hA with h0 | ⟨ad, rfl, _⟩
          · exact h0
          · cases e
        · rcases hA with h0 | ⟨ad, rfl, hA⟩
          · exact .inl h0
          · exact .inr ⟨ad, rfl, fun i j x p hi hj => ⟨u i j, (hA i j x p hi hj).1, (hA i j x p hi hj).2.2, hr i j x p hi hj⟩⟩
  · obtain ⟨e, es, hm, h⟩ := onRowB_e h
    · cases hp with
      | im hi => cases hi
      | own hm' => exact ⟨es, h, (hb _ _ hm).rowAt⟩
  · rename_i b l hh
    obtain ⟨e, es, hm, h⟩ := onRowB_e h
    · cases hp with
      | im hi => cases hi
      | osl0 hm' hl hg =>
        rename_i n c A e' es' _
        rw [hm] at hm'; cases hm'
        refine ⟨_, h, ?_⟩
        have hok := hb _ _ hm
        rw [hg] at hok
        have hra := hok.rowAt
        obtain ⟨A', c', sz, e1, h1, h2, h3, h4, h5⟩ := hra
        cases e1
        have hlen : ((es.take hh).drop 0).length = hh := by simp; omega
        refine ⟨A, c, sz, by rw [hlen], by omega, by omega, fun x hx => h3 x (List.mem_of_mem_take (List.mem_of_mem_drop hx)), fun e => by have := h4 e; omega, ?_⟩
        by_cases hz : hh = 0
        · left; omega
        · right
          rcases h5 with h5 | ⟨ad, rfl, h5⟩
          · omega
          · refine ⟨ad, rfl, fun i j x p hi hj => ?_⟩
            obtain ⟨hi', _⟩ := part_get hi
            rw [Nat.zero_add] at hi'
            exact h5 i j x p hi' hj
      | osl hm' h0 hl hhl hc hx hs hg =>
        rw [hm] at hm'; cases hm'
        exact ⟨_, h, (hb _ _ hm).rowAt_osl hl hhl hc hx hs (hg.1.imp (fun e => by omega) fun e => ⟨e, hg.2.1⟩)⟩
  · have := hp.val_eq; subst this
    exact ⟨[], h, none, 0, 0, rfl, by simp, by simp, by simp, by simp, .inl rfl⟩
  · cases h
end
end Go.V
