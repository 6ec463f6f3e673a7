import Derived.Test.YtfmhmlijnidflaaV11
import Derived.Defers
import Derived.OneCell
import Derived.Below
set_option linter.unusedVariables false
set_option linter.unusedSimpArgs false
namespace Go.V
open Go
section
variable {c : Cx} {P : Program} {M M' : Nat → Prop} {w0 w w' : World} {tm : Tm} {m m' : Mem} {ρ ρ' : Nat → Value} {a : Act}
theorem Inv.setVar (h : Inv c tm m ρ a w) {b g : Nat} {p : PV} {v : Value} (hm : m[b]? = some (.var [p])) (hg : ρ b = .pointer (some ⟨g, 0, none⟩)) (hv : okB v = true) (h1 : v.oneCell' = true) : (∃ x te, w.heap[g]? = some (.cells #[x] te (0, 0)) ∧ Rep c.M w m ρ p x) ∧ Inv c tm (m.set b (.var [.val v])) ρ a (w.setCell ⟨g, 0, none⟩ v) := by
  have hok := h.blk b _ hm
  rw [hg] at hok
  cases hok with
  | var hh hl hj h1' =>
    rename_i te vs
    obtain ⟨x, rfl⟩ : ∃ x, vs = #[x] := by
      obtain ⟨l⟩ := vs
      match l, hl with
      | [x], _ => exact ⟨x, rfl⟩
    have hset : (w.setCell ⟨g, 0, none⟩ v).heap[g]? = some (.cells #[v] te (0, 0)) := one_setCell hh
    refine ⟨⟨x, te, hh, hj 0 p x rfl rfl⟩, h.write hm (.inr ⟨_, _, rfl, rfl⟩) (by simp) (fun k hk hne => Go.RowKit.Below.heap_setCell w _ v k fun e => hne (by rw [hg, e]; rfl)) rfl rfl rfl (fun hrep him => ?_)⟩
    rw [hg]
    exact .var hset rfl (fun j q u hq hu => by
      cases j with
      | zero => simp at hq hu; subst hq; subst hu; exact .im (.val hv)
      | succ j => simp at hq) (fun u hu => by simp at hu; subst hu; exact h1)
theorem at1_mono {p : PV} {K K' : List PV → Prop} (hk : ∀ cs, K cs → K' cs) (h : at1 m p K) : at1 m p K' := by
  cases p with
  | adr b o => rw [at1] at h ⊢; obtain ⟨cs, h1, h2⟩ := onVarB_e h; rw [h1]; exact hk _ h2
  | ead b i j =>
    rw [at1] at h ⊢
    obtain ⟨e, es, h1, h2⟩ := onRowB_e h
    obtain ⟨x, h3, h4⟩ := onS_e h2
    rw [h1]
    show onS _ _
    rw [h3]; exact hk _ h4
  | cad cs => rw [at1] at h ⊢; exact hk _ h
  | _ => exact h.elim
def resSlots : List ResultVar → List Nat
  | [] => []
  | .tmp t :: l => t :: resSlots l
  | .cell a _ :: l => a :: resSlots l
theorem resB_put {d : Nat} {p : PV} : ∀ (rs : List ResultVar) (k : List PV → Prop), (resSlots rs).contains d = false → resB P tm m rs k → resB P (put tm (some d) p) m rs k
  | [], k, _, h => h
  | .tmp t :: l, k, hd, h => by
    rw [resSlots, List.contains_cons, Bool.or_eq_false_iff] at hd
    rw [resB] at h ⊢
    have := resB_put (p := p) l _ hd.2 h
    rw [get_put, if_neg (by simpa using hd.1)]
    exact this
  | .cell b t :: l, k, hd, h => by
    rw [resSlots, List.contains_cons, Bool.or_eq_false_iff] at hd
    rw [resB] at h ⊢
    rw [get_put, if_neg (by simpa using hd.1)]
    have key : ∀ cs, (onS (loadC P t cs) fun p => resB P tm m l fun ps => k (p :: ps)) → onS (loadC P t cs) fun p' => resB P (put tm (some d) p) m l fun ps => k (p' :: ps) := by
      intro cs h
      obtain ⟨q, hq, h⟩ := onS_e h
      rw [hq]
      exact resB_put l _ hd.2 h
    exact at1_mono key h
def onlyN (k : Tm → Mem → Prop) : KF := fun e tm m => match e with
  | .normal => k tm m
  | _ => False
/-- The end of a function whose deferred call catches a panic and tells of it in the variables i4 and i5. -/
def doneD (P : Program) (rs : List ResultVar) (Q : PV → Mem → Prop) (wr : Int → Int → Value) (i4 i5 : Nat) : KF := fun e tm m => match e with
  | .exit _ => False
  | .pan v => ∃ re ra x y, v = wr re ra ∧ okB (.int .i64 re) = true ∧ okB (.int .i64 ra) = true ∧ m[i4]? = some (.var [.val (.int .i64 x)]) ∧ m[i5]? = some (.var [.val (.int .i64 y)]) ∧
      resB P tm ((m.set i4 (.var [.val (.int .i64 re)])).set i5 (.var [.val (.int .i64 ra)])) rs fun ps => fin 0 ((m.set i4 (.var [.val (.int .i64 re)])).set i5 (.var [.val (.int .i64 ra)])) (oneB ps) Q
  | _ => resB P tm m rs fun ps => fin 0 m (oneB ps) Q
theorem defer_step {id : Nat} {o : Oper} {df s4 s5 : Nat} {ts : Array TypeId} {Q : Exit → Act → World → Prop} (ho : o.op = .defer { callee := .value (.func df), args := #[.tmp s4, .tmp s5], argTypes := ts }) (hog : o.guard = none) (hod : o.dst = none)
    (h : Q .normal { a with defers := { target := .fn (.func df) #[], args := #[a.tmps.getD s4 undef, a.tmps.getD s5 undef] } :: a.defers } w) : (Code.region id #[o] false).wp P Q a w := by
  refine wp_region_list (wpList_plain hog fun K hK => ?_)
  unfold Oper.wp
  have : (execOp a.eval o).run P w = .ok (.defer { target := .fn (.func df) #[], args := #[a.tmps.getD s4 undef, a.tmps.getD s5 undef] }) w := by
    simp [execOp, ho, resolve, Deferred.ofValue, Act.eval]
  rw [this, Oper.upon_defer, hod]
  exact hK _ _ h
theorem onlyN_pan {kd : Nat → Bool} {k : Tm → Mem → Prop} : PanK kd (onlyN k) := fun v tm m d _ h => h
theorem doneD_pan {rs : List ResultVar} {Q : PV → Mem → Prop} {wr : Int → Int → Value} {i4 i5 : Nat} : PanK (fun d => !(resSlots rs).contains d) (doneD P rs Q wr i4 i5) := fun v tm m d hd h => by
  obtain ⟨re, ra, x, y, h1, h2, h3, h4, h5, h6⟩ := h
  exact ⟨re, ra, x, y, h1, h2, h3, h4, h5, resB_put _ _ (by simpa using hd) h6⟩
/-- A function that defers one call, which catches. -/
theorem does_ofD {f : FuncId} {fn : Func} {A B C : Code} {idr : Nat} {o : Oper} {df s4 s5 i4 i5 : Nat} {ts : Array TypeId} {args : List PV} {Q : PV → Mem → Prop} {wr : Int → Int → Value}
    (hm : P.follows .mixedOrders = true) (hf : P.funcs[f]? = some fn) (hb : fn.body = some (.seq A (.seq B (.seq (.region idr #[o] false) C))))
    (ho : o.op = .defer { callee := .value (.func df), args := #[.tmp s4, .tmp s5], argTypes := ts }) (hog : o.guard = none) (hod : o.dst = none)
    (tr : Nat → Option (Tr × List Nat)) (hg : goodK (fun d => !(resSlots fn.results.toList).contains d) tr fn = true) (lent : FuncId → Bool) (live : Nat → List Nat)
    (hinv : ∀ (vs : Array Value) (w : World), (invoke (.fn (.func df) #[]) vs).run P w = .ok (.enter df vs) w)
    (hidle : ∀ (p q : Addr) (w : World), CallsD P df #[.pointer (some p), .pointer (some q)] .returning w fun e u' w' => e = .returned (.tuple #[]) ∧ u' = .returning ∧ w' = w)
    (hpan : ∀ (g h : Nat) (re ra x y : Int) (te th : TypeId) (w : World), w.heap[g]? = some (.cells #[.int .i64 x] te (0, 0)) → w.heap[h]? = some (.cells #[.int .i64 y] th (0, 0)) → g ≠ h →
      CallsD P df #[.pointer (some ⟨g, 0, none⟩), .pointer (some ⟨h, 0, none⟩)] (.panicking [{ v := wr re ra, recovered := false }]) w fun e u' w' => e = .returned (.tuple #[]) ∧ u' = .panicking [{ v := wr re ra, recovered := true }] ∧ ∃ ob, w' = (((w.setCell ⟨g, 0, none⟩ (.int .i64 re)).setCell ⟨h, 0, none⟩ (.int .i64 ra)).alloc ob).drew)
    (h45 : i4 ≠ i5)
    (hs : execC P 0 lent 0 live tr A (onlyN (execC P 0 lent 0 live tr B (onlyN fun tm m => get tm s4 = .adr i4 0 ∧ get tm s5 = .adr i5 0 ∧ execC P 0 lent m.length live tr C (doneD P fn.results.toList Q wr i4 i5) tm m))) (number 0 args) []) : Does P f args [] 0 Q := by
  rw [goodK, hb] at hg
  simp only [okCode, Bool.and_eq_true, Bool.not_eq_true'] at hg
  obtain ⟨hname, hA, hB, hD, hC⟩ := hg
  refine ⟨⟨fn, _, hf, hb, hname⟩, fun M w vs ρ hM hmem hl hr => ?_⟩
  have h0 := Inv.start (P := P) (np := 0) (kd := fun d => !(resSlots fn.results.toList).contains d) hM hmem hl hr (fn.ntmps - vs.size)
  have hN : fn.ntmps ≤ vs.size + (fn.ntmps - vs.size) := by omega
  refine calls_of_wp_defers hf hb (wp_seq (wp_mono (execC_sound (c := ⟨P, M, w, Own [] ρ, vs.size + (fn.ntmps - vs.size), 0, 0, [], ρ, [], fun d => !(resSlots fn.results.toList).contains d⟩) hm onlyN_pan (okCode_mono hN A hA) hs h0) fun e a w1 hq => ?_))
  cases e with
  | exit id => obtain ⟨_, _, _, h1, _⟩ := hq; exact h1.elim
  | ret => obtain ⟨_, _, _, h1, _⟩ := hq; exact h1.elim
  | goto l => exact hq.elim
  | outgrown => exact hq.elim
  | panic ch => obtain ⟨v, _, _, _, _, h1, _⟩ := hq; exact h1.elim
  | normal =>
  obtain ⟨tm1, m1, ρ1, hs1, h1⟩ := hq
  refine wp_seq (wp_mono (execC_sound (c := ⟨P, M, w, Own [] ρ, vs.size + (fn.ntmps - vs.size), 0, 0, [], ρ, [], fun d => !(resSlots fn.results.toList).contains d⟩) hm onlyN_pan (okCode_mono hN B hB) hs1 h1) fun e a w1 hq => ?_)
  cases e with
  | exit id => obtain ⟨_, _, _, h1, _⟩ := hq; exact h1.elim
  | ret => obtain ⟨_, _, _, h1, _⟩ := hq; exact h1.elim
  | goto l => exact hq.elim
  | outgrown => exact hq.elim
  | panic ch => obtain ⟨v, _, _, _, _, h1, _⟩ := hq; exact h1.elim
  | normal =>
  obtain ⟨tm2, m2, ρ2, ⟨e4, e5, hs2⟩, h2⟩ := hq
  have r4 : ∃ g cs, a.tmps.getD s4 undef = .pointer (some ⟨g, 0, none⟩) ∧ ρ2 i4 = .pointer (some ⟨g, 0, none⟩) ∧ m2[i4]? = some (.var cs) := by
    have := h2.tm s4
    rw [e4] at this
    generalize a.tmps.getD s4 undef = v at this
    cases this with
    | im hi => cases hi
    | adr h1 h2 => exact ⟨_, _, rfl, h2, h1⟩
  have r5 : ∃ g cs, a.tmps.getD s5 undef = .pointer (some ⟨g, 0, none⟩) ∧ ρ2 i5 = .pointer (some ⟨g, 0, none⟩) ∧ m2[i5]? = some (.var cs) := by
    have := h2.tm s5
    rw [e5] at this
    generalize a.tmps.getD s5 undef = v at this
    cases this with
    | im hi => cases hi
    | adr h1 h2 => exact ⟨_, _, rfl, h2, h1⟩
  obtain ⟨g4, c4, t4, p4, k4⟩ := r4
  obtain ⟨g5, c5, t5, p5, k5⟩ := r5
  have hne : g4 ≠ g5 := fun e => h45 (h2.sep i4 i5 g4 ⟨_, k4, by simp⟩ ⟨_, k5, by simp⟩ (by rw [p4]; rfl) (by rw [p5, e]; rfl))
  refine wp_seq (defer_step ho hog hod ?_)
  have hdf : a.defers = [] := h2.df
  rw [hdf, t4, t5]
  generalize hD : ({ target := .fn (.func df) #[], args := #[.pointer (some ⟨g4, 0, none⟩), .pointer (some ⟨g5, 0, none⟩)] } : Deferred) = D
  have h3 : Inv ⟨P, M, w, Own [] ρ, vs.size + (fn.ntmps - vs.size), m2.length, 0, m2, ρ2, [D], fun d => !(resSlots fn.results.toList).contains d⟩ tm2 m2 ρ2 { a with defers := [D] } w1 :=
    ⟨h2.sz, rfl, h2.tm, h2.blk, h2.sep, h2.new, h2.fr, h2.old, h2.dis, ⟨Nat.le_refl _, fun b cs _ hb => ⟨rfl, cs, hb⟩, fun b e es _ hb => .inr ⟨fun _ => rfl, e, es, hb⟩, fun b _ hb => hb⟩⟩
  refine wp_mono (execC_sound (c := ⟨P, M, w, Own [] ρ, vs.size + (fn.ntmps - vs.size), m2.length, 0, m2, ρ2, [D], fun d => !(resSlots fn.results.toList).contains d⟩) hm doneD_pan (okCode_mono hN C hC) hs2 h3) fun e a' w' hq => ?_
  have back : ∀ {tm : Tm} {m' : Mem} {ρ' : Nat → Value} {b : Act} {w' : World}, Inv ⟨P, M, w, Own [] ρ, vs.size + (fn.ntmps - vs.size), m2.length, 0, m2, ρ2, [D], fun d => !(resSlots fn.results.toList).contains d⟩ tm m' ρ' b w' → Inv ⟨P, M, w, Own [] ρ, vs.size + (fn.ntmps - vs.size), 0, 0, [], ρ, [], fun d => !(resSlots fn.results.toList).contains d⟩ tm m' ρ' { b with defers := [] } w' :=
    fun h => ⟨h.sz, rfl, h.tm, h.blk, h.sep, h.new, h.fr, h.old, h.dis, ⟨Nat.zero_le _, fun b cs hb => absurd hb (Nat.not_lt_zero _), fun b e es hb => absurd hb (Nat.not_lt_zero _), fun b hb => absurd hb (Nat.not_lt_zero _)⟩⟩
  have fin' : ∀ (tm : Tm) (m' : Mem) (ρ' : Nat → Value) (b : Act) (w' : World), resB P tm m' fn.results.toList (fun ps => fin 0 m' (oneB ps) Q) → Inv ⟨P, M, w, Own [] ρ, vs.size + (fn.ntmps - vs.size), m2.length, 0, m2, ρ2, [D], fun d => !(resSlots fn.results.toList).contains d⟩ tm m' ρ' b w' → ∃ v, (results fn b.tmps).run P w' = .ok v w' ∧ ((∃ v' r m' ρ', Ending.returned v = .returned v' ∧ Q r m' ∧ Fr (Own [] ρ) w w' ∧ Rep M w' m' ρ' r v' ∧ MemOk P M w' m' ρ' ∧ Foot ⟨P, M, w, Own [] ρ, 0, ([] : Mem).length, 0, [], ρ, [], fun _ => true⟩ m' ρ' ∧ ∀ b k, Live m' b → own1 (ρ' b) = some k → w.heap.size ≤ k ∨ Own [] ρ k) ∨
      ∃ x, Ending.returned v = .panicked [{ v := x, recovered := false }] ∧ False ∧ Fr (Own [] ρ) w w') := by
    intro tm m1 ρ1 b w' h1 h2
    have h2 := back h2
    obtain ⟨ps, v, h3, h4, h5⟩ := results_sound h2 h1
    obtain ⟨r, m', ρ', h6, h7, h8⟩ := fin_sound h2 h5 h3
    exact ⟨v, h4, .inl ⟨v, r, m', ρ', rfl, h6, h2.fr, h7, ⟨h8.blk, h8.sep, fun b k hb hk => h8.out hb hk⟩, ⟨h8.ft.len, h8.ft.var, h8.ft.row, h8.ft.dead⟩, h8.new⟩⟩
  cases e with
  | normal =>
    obtain ⟨tm, m', ρ', k1, k2⟩ := hq
    have e1 : a'.defers = [D] := k2.df
    show Leaves P fn a'.tmps _ a'.defers .returning w'
    rw [e1, ← hD]
    refine leaves_cons (f := df) (args := #[.pointer (some ⟨g4, 0, none⟩), .pointer (some ⟨g5, 0, none⟩)]) (by simp) (hinv _ _) ((hidle _ _ _).mono ?_)
    rintro e u' w'' ⟨rfl, rfl, rfl⟩
    show Leaves P fn a'.tmps _ [] .returning _
    exact fin' tm m' ρ' a' _ k1 k2
  | ret =>
    obtain ⟨tm, m', ρ', k1, k2⟩ := hq
    have e1 : a'.defers = [D] := k2.df
    show Leaves P fn a'.tmps _ a'.defers .returning w'
    rw [e1, ← hD]
    refine leaves_cons (f := df) (args := #[.pointer (some ⟨g4, 0, none⟩), .pointer (some ⟨g5, 0, none⟩)]) (by simp) (hinv _ _) ((hidle _ _ _).mono ?_)
    rintro e u' w'' ⟨rfl, rfl, rfl⟩
    show Leaves P fn a'.tmps _ [] .returning _
    exact fin' tm m' ρ' a' _ k1 k2
  | exit id => obtain ⟨_, _, _, h1, _⟩ := hq; exact h1.elim
  | goto l => exact hq.elim
  | outgrown => exact hq.elim
  | panic ch =>
    obtain ⟨v, rfl, tm, m', ρ', ⟨re, ra, x, y, rfl, oe, oa, q4, q5, hres⟩, k2⟩ := hq
    have e1 : a'.defers = [D] := k2.df
    have f4 : ρ' i4 = .pointer (some ⟨g4, 0, none⟩) := (k2.ft.var i4 c4 (lt_of_get k4) k4).1.trans p4
    have f5 : ρ' i5 = .pointer (some ⟨g5, 0, none⟩) := (k2.ft.var i5 c5 (lt_of_get k5) k5).1.trans p5
    obtain ⟨⟨x4, te, b4, rx⟩, n4⟩ := k2.setVar (v := .int .i64 re) q4 f4 oe rfl
    obtain ⟨⟨x5, th, b5, ry⟩, _⟩ := k2.setVar (v := .int .i64 ra) q5 f5 oa rfl
    obtain rfl := rx.val_eq
    obtain rfl := ry.val_eq
    obtain ⟨_, n5⟩ := n4.setVar (v := .int .i64 ra) (p := .val (.int .i64 y)) (by rw [List.getElem?_set_ne h45]; exact q5) f5 oa rfl
    show Leaves P fn a'.tmps _ a'.defers (.panicking _) w'
    rw [e1, ← hD]
    refine leaves_cons (f := df) (args := #[.pointer (some ⟨g4, 0, none⟩), .pointer (some ⟨g5, 0, none⟩)]) (by simp) (hinv _ _) ((hpan g4 g5 re ra x y te th w' b4 b5 hne).mono ?_)
    rintro e u' w'' ⟨rfl, rfl, ob, rfl⟩
    show Leaves P fn a'.tmps _ [] .returning _
    refine fin' tm _ ρ' a' _ hres (n5.stays ⟨rfl, rfl, rfl, by simp, fun k hk _ => heap_alloc_old _ _ k hk⟩)
end
end Go.V
