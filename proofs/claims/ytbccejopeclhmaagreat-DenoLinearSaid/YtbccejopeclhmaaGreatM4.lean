import Derived.Test.YtbccejopeclhmaaGreatM3
import Derived.Defers
import Derived.OneCell
import Derived.Below
import Derived.RangeFuncIn
import Derived.RangeFuncLeaves
import Derived.OrdersIn
import Derived.TacticsIn
import Derived.RangeFuncRecord
set_option linter.unusedVariables false
set_option linter.unusedSimpArgs false
namespace Go.V
open Go
section
variable {c : Cx} {P : Program} {M M' : Nat → Prop} {w0 w w' : World} {tm : Tm} {m m' : Mem} {ρ ρ' : Nat → Value} {a : Act}
theorem Inv.setVar (h : Inv c tm m ρ a w) {b g : Nat} {p : PV} {v : Value} (hm : m[b]? = some (.var [p])) (hg : ρ b = .pointer (some ⟨g, 0, none⟩)) (hv : okB v = true) (h1 : v.oneCell' = true) : (∃ x te, w.heap[g]? = some (.cells #[x] te (0, 0)) ∧ Rep c.M w m ρ p x) ∧ Inv c tm (m.set b (.var [.val v])) ρ a (w.setCell ⟨g, 0, none⟩ v) := by
  have hok := h.blk b _ hm
  rw [hg] at hok
  cases hok with
  | var hh hl hj h1' =>
    rename_i te vs
    obtain ⟨x, rfl⟩ : ∃ x, vs = #[x] := by
      obtain ⟨l⟩ := vs
      match l, hl with
      | [x], _ => exact ⟨x, rfl⟩
    have hset : (w.setCell ⟨g, 0, none⟩ v).heap[g]? = some (.cells #[v] te (0, 0)) := one_setCell hh
    refine ⟨⟨x, te, hh, hj 0 p x rfl rfl⟩, h.write hm (.inr ⟨_, _, rfl, rfl⟩) (by simp) (fun k hk hne => Go.RowKit.Below.heap_setCell w _ v k fun e => hne (by rw [hg, e]; rfl)) rfl rfl rfl (fun hrep him => ?_)⟩
    rw [hg]
    exact .var hset rfl (fun j q u hq hu => by
      cases j with
      | zero => simp at hq hu; subst hq; subst hu; exact .im (.val hv)
      | succ j => simp at hq) (fun u hu => by simp at hu; subst hu; exact h1)
theorem at1_mono {p : PV} {K K' : List PV → Prop} (hk : ∀ cs, K cs → K' cs) (h : at1 m p K) : at1 m p K' := by
  cases p with
  | adr b o => rw [at1] at h ⊢; obtain ⟨cs, h1, h2⟩ := onVarB_e h; rw [h1]; exact hk _ h2
  | ead b i j =>
    rw [at1] at h ⊢
    obtain ⟨e, es, h1, h2⟩ := onRowB_e h
    obtain ⟨x, h3, h4⟩ := onS_e h2
    rw [h1]
    show onS _ _
    rw [h3]; exact hk _ h4
  | cad cs => rw [at1] at h ⊢; exact hk _ h
  | _ => exact h.elim
def resSlots : List ResultVar → List Nat
  | [] => []
  | .tmp t :: l => t :: resSlots l
  | .cell a _ :: l => a :: resSlots l
theorem resB_put {d : Nat} {p : PV} : ∀ (rs : List ResultVar) (k : List PV → Prop), (resSlots rs).contains d = false → resB P tm m rs k → resB P (put tm (some d) p) m rs k
  | [], k, _, h => h
  | .tmp t :: l, k, hd, h => by
    rw [resSlots, List.contains_cons, Bool.or_eq_false_iff] at hd
    rw [resB] at h ⊢
    have := resB_put (p := p) l _ hd.2 h
    rw [get_put, if_neg (by simpa using hd.1)]
    exact this
  | .cell b t :: l, k, hd, h => by
    rw [resSlots, List.contains_cons, Bool.or_eq_false_iff] at hd
    rw [resB] at h ⊢
    rw [get_put, if_neg (by simpa using hd.1)]
    have key : ∀ cs, (onS (loadC P t cs) fun p => resB P tm m l fun ps => k (p :: ps)) → onS (loadC P t cs) fun p' => resB P (put tm (some d) p) m l fun ps => k (p' :: ps) := by
      intro cs h
      obtain ⟨q, hq, h⟩ := onS_e h
      rw [hq]
      exact resB_put l _ hd.2 h
    exact at1_mono key h
def onlyN (k : Tm → Mem → Prop) : KF := fun e tm m => match e with
  | .normal => k tm m
  | _ => False
/-- The end of a function whose deferred call catches a panic and tells of it in the variables i4 and i5. -/
def doneD (P : Program) (rs : List ResultVar) (Q : PV → Mem → Prop) (wr : Int → Int → Value) (i4 i5 : Nat) : KF := fun e tm m => match e with
  | .exit _ => False
  | .pan v => ∃ re ra x y, v = wr re ra ∧ okB (.int .i64 re) = true ∧ okB (.int .i64 ra) = true ∧ m[i4]? = some (.var [.val (.int .i64 x)]) ∧ m[i5]? = some (.var [.val (.int .i64 y)]) ∧
      resB P tm ((m.set i4 (.var [.val (.int .i64 re)])).set i5 (.var [.val (.int .i64 ra)])) rs fun ps => fin 0 ((m.set i4 (.var [.val (.int .i64 re)])).set i5 (.var [.val (.int .i64 ra)])) (oneB ps) Q
  | _ => resB P tm m rs fun ps => fin 0 m (oneB ps) Q
theorem defer_step {id : Nat} {o : Oper} {df s4 s5 : Nat} {ts : Array TypeId} {Q : Exit → Act → World → Prop} (ho : o.op = .defer { callee := .value (.func df), args := #[.tmp s4, .tmp s5], argTypes := ts }) (hog : o.guard = none) (hod : o.dst = none)
    (h : Q .normal { a with defers := { target := .fn (.func df) #[], args := #[a.tmps.getD s4 undef, a.tmps.getD s5 undef] } :: a.defers } w) : (Code.region id #[o] false).wp P Q a w := by
  refine wp_region_list (wpList_plain hog fun K hK => ?_)
  unfold Oper.wp
  have : (execOp a.eval o).run P w = .ok (.defer { target := .fn (.func df) #[], args := #[a.tmps.getD s4 undef, a.tmps.getD s5 undef] }) w := by
    simp [execOp, ho, resolve, Deferred.ofValue, Act.eval]
  rw [this, Oper.upon_defer, hod]
  exact hK _ _ h
theorem onlyN_pan {kd : Nat → Bool} {k : Tm → Mem → Prop} : PanK kd (onlyN k) := fun v tm m d _ h => h
theorem doneD_pan {rs : List ResultVar} {Q : PV → Mem → Prop} {wr : Int → Int → Value} {i4 i5 : Nat} : PanK (fun d => !(resSlots rs).contains d) (doneD P rs Q wr i4 i5) := fun v tm m d hd h => by
  obtain ⟨re, ra, x, y, h1, h2, h3, h4, h5, h6⟩ := h
  exact ⟨re, ra, x, y, h1, h2, h3, h4, h5, resB_put _ _ (by simpa using hd) h6⟩
/-- A function that defers one call, which catches. -/
theorem does_ofD {f : FuncId} {fn : Func} {A B C : Code} {idr : Nat} {o : Oper} {df s4 s5 i4 i5 : Nat} {ts : Array TypeId} {args : List PV} {Q : PV → Mem → Prop} {wr : Int → Int → Value}
    (hm : P.follows .mixedOrders = true) (hf : P.funcs[f]? = some fn) (hb : fn.body = some (.seq A (.seq B (.seq (.region idr #[o] false) C))))
    (ho : o.op = .defer { callee := .value (.func df), args := #[.tmp s4, .tmp s5], argTypes := ts }) (hog : o.guard = none) (hod : o.dst = none)
    (tr : Nat → Option (Tr × List Nat)) (hg : goodK (fun d => !(resSlots fn.results.toList).contains d) tr fn = true) (lent : FuncId → Bool) (live : Nat → List Nat)
    (hinv : ∀ (vs : Array Value) (w : World), (invoke (.fn (.func df) #[]) vs).run P w = .ok (.enter df vs) w)
    (hidle : ∀ (p q : Addr) (w : World), CallsD P df #[.pointer (some p), .pointer (some q)] .returning w fun e u' w' => e = .returned (.tuple #[]) ∧ u' = .returning ∧ w' = w)
    (hpan : ∀ (g h : Nat) (re ra x y : Int) (te th : TypeId) (w : World), w.heap[g]? = some (.cells #[.int .i64 x] te (0, 0)) → w.heap[h]? = some (.cells #[.int .i64 y] th (0, 0)) → g ≠ h →
      CallsD P df #[.pointer (some ⟨g, 0, none⟩), .pointer (some ⟨h, 0, none⟩)] (.panicking [{ v := wr re ra, recovered := false }]) w fun e u' w' => e = .returned (.tuple #[]) ∧ u' = .panicking [{ v := wr re ra, recovered := true }] ∧ ∃ ob, w' = (((w.setCell ⟨g, 0, none⟩ (.int .i64 re)).setCell ⟨h, 0, none⟩ (.int .i64 ra)).alloc ob).drew)
    (h45 : i4 ≠ i5)
    (hs : execC P 0 lent 0 live tr A (onlyN (execC P 0 lent 0 live tr B (onlyN fun tm m => get tm s4 = .adr i4 0 ∧ get tm s5 = .adr i5 0 ∧ execC P 0 lent m.length live tr C (doneD P fn.results.toList Q wr i4 i5) tm m))) (number 0 args) []) : Does P f args [] 0 Q := by
  rw [goodK, hb] at hg
  simp only [okCode, Bool.and_eq_true, Bool.not_eq_true'] at hg
  obtain ⟨hname, hA, hB, hD, hC⟩ := hg
  refine ⟨⟨fn, _, hf, hb, hname⟩, fun M w vs ρ hM hmem hl hr => ?_⟩
  have h0 := Inv.start (P := P) (np := 0) (kd := fun d => !(resSlots fn.results.toList).contains d) hM hmem hl hr (fn.ntmps - vs.size)
  have hN : fn.ntmps ≤ vs.size + (fn.ntmps - vs.size) := by omega
  refine calls_of_wp_defers hf hb (wp_seq (wp_mono (execC_sound (c := ⟨P, M, w, Own [] ρ, vs.size + (fn.ntmps - vs.size), 0, 0, [], ρ, [], fun d => !(resSlots fn.results.toList).contains d⟩) hm onlyN_pan (okCode_mono hN A hA) hs h0) fun e a w1 hq => ?_))
  cases e with
  | exit id => obtain ⟨_, _, _, h1, _⟩ := hq; exact h1.elim
  | ret => obtain ⟨_, _, _, h1, _⟩ := hq; exact h1.elim
  | goto l => exact hq.elim
  | outgrown => exact hq.elim
  | panic ch => obtain ⟨v, _, _, _, _, h1, _⟩ := hq; exact h1.elim
  | normal =>
  obtain ⟨tm1, m1, ρ1, hs1, h1⟩ := hq
  refine wp_seq (wp_mono (execC_sound (c := ⟨P, M, w, Own [] ρ, vs.size + (fn.ntmps - vs.size), 0, 0, [], ρ, [], fun d => !(resSlots fn.results.toList).contains d⟩) hm onlyN_pan (okCode_mono hN B hB) hs1 h1) fun e a w1 hq => ?_)
  cases e with
  | exit id => obtain ⟨_, _, _, h1, _⟩ := hq; exact h1.elim
  | ret => obtain ⟨_, _, _, h1, _⟩ := hq; exact h1.elim
  | goto l => exact hq.elim
  | outgrown => exact hq.elim
  | panic ch => obtain ⟨v, _, _, _, _, h1, _⟩ := hq; exact h1.elim
  | normal =>
  obtain ⟨tm2, m2, ρ2, ⟨e4, e5, hs2⟩, h2⟩ := hq
  have r4 : ∃ g cs, a.tmps.getD s4 undef = .pointer (some ⟨g, 0, none⟩) ∧ ρ2 i4 = .pointer (some ⟨g, 0, none⟩) ∧ m2[i4]? = some (.var cs) := by
    have := h2.tm s4
    rw [e4] at this
    generalize a.tmps.getD s4 undef = v at this
    cases this with
    | im hi => cases hi
    | adr h1 h2 => exact ⟨_, _, rfl, h2, h1⟩
  have r5 : ∃ g cs, a.tmps.getD s5 undef = .pointer (some ⟨g, 0, none⟩) ∧ ρ2 i5 = .pointer (some ⟨g, 0, none⟩) ∧ m2[i5]? = some (.var cs) := by
    have := h2.tm s5
    rw [e5] at this
    generalize a.tmps.getD s5 undef = v at this
    cases this with
    | im hi => cases hi
    | adr h1 h2 => exact ⟨_, _, rfl, h2, h1⟩
  obtain ⟨g4, c4, t4, p4, k4⟩ := r4
  obtain ⟨g5, c5, t5, p5, k5⟩ := r5
  have hne : g4 ≠ g5 := fun e => h45 (h2.sep i4 i5 g4 ⟨_, k4, by simp⟩ ⟨_, k5, by simp⟩ (by rw [p4]; rfl) (by rw [p5, e]; rfl))
  refine wp_seq (defer_step ho hog hod ?_)
  have hdf : a.defers = [] := h2.df
  rw [hdf, t4, t5]
  generalize hD : ({ target := .fn (.func df) #[], args := #[.pointer (some ⟨g4, 0, none⟩), .pointer (some ⟨g5, 0, none⟩)] } : Deferred) = D
  have h3 : Inv ⟨P, M, w, Own [] ρ, vs.size + (fn.ntmps - vs.size), m2.length, 0, m2, ρ2, [D], fun d => !(resSlots fn.results.toList).contains d⟩ tm2 m2 ρ2 { a with defers := [D] } w1 :=
    ⟨h2.sz, rfl, h2.tm, h2.blk, h2.sep, h2.new, h2.fr, h2.old, h2.dis, ⟨Nat.le_refl _, fun b cs _ hb => ⟨rfl, cs, hb⟩, fun b e es _ hb => .inr ⟨fun _ => rfl, e, es, hb⟩, fun b _ hb => hb⟩⟩
  refine wp_mono (execC_sound (c := ⟨P, M, w, Own [] ρ, vs.size + (fn.ntmps - vs.size), m2.length, 0, m2, ρ2, [D], fun d => !(resSlots fn.results.toList).contains d⟩) hm doneD_pan (okCode_mono hN C hC) hs2 h3) fun e a' w' hq => ?_
  have back : ∀ {tm : Tm} {m' : Mem} {ρ' : Nat → Value} {b : Act} {w' : World}, Inv ⟨P, M, w, Own [] ρ, vs.size + (fn.ntmps - vs.size), m2.length, 0, m2, ρ2, [D], fun d => !(resSlots fn.results.toList).contains d⟩ tm m' ρ' b w' → Inv ⟨P, M, w, Own [] ρ, vs.size + (fn.ntmps - vs.size), 0, 0, [], ρ, [], fun d => !(resSlots fn.results.toList).contains d⟩ tm m' ρ' { b with defers := [] } w' :=
    fun h => ⟨h.sz, rfl, h.tm, h.blk, h.sep, h.new, h.fr, h.old, h.dis, ⟨Nat.zero_le _, fun b cs hb => absurd hb (Nat.not_lt_zero _), fun b e es hb => absurd hb (Nat.not_lt_zero _), fun b hb => absurd hb (Nat.not_lt_zero _)⟩⟩
  have fin' : ∀ (tm : Tm) (m' : Mem) (ρ' : Nat → Value) (b : Act) (w' : World), resB P tm m' fn.results.toList (fun ps => fin 0 m' (oneB ps) Q) → Inv ⟨P, M, w, Own [] ρ, vs.size + (fn.ntmps - vs.size), m2.length, 0, m2, ρ2, [D], fun d => !(resSlots fn.results.toList).contains d⟩ tm m' ρ' b w' → ∃ v, (results fn b.tmps).run P w' = .ok v w' ∧ ((∃ v' r m' ρ', Ending.returned v = .returned v' ∧ Q r m' ∧ Fr (Own [] ρ) w w' ∧ Rep M w' m' ρ' r v' ∧ MemOk P M w' m' ρ' ∧ Foot ⟨P, M, w, Own [] ρ, 0, ([] : Mem).length, 0, [], ρ, [], fun _ => true⟩ m' ρ' ∧ ∀ b k, Live m' b → own1 (ρ' b) = some k → w.heap.size ≤ k ∨ Own [] ρ k) ∨
      ∃ x, Ending.returned v = .panicked [{ v := x, recovered := false }] ∧ False ∧ Fr (Own [] ρ) w w') := by
    intro tm m1 ρ1 b w' h1 h2
    have h2 := back h2
    obtain ⟨ps, v, h3, h4, h5⟩ := results_sound h2 h1
    obtain ⟨r, m', ρ', h6, h7, h8⟩ := fin_sound h2 h5 h3
    exact ⟨v, h4, .inl ⟨v, r, m', ρ', rfl, h6, h2.fr, h7, ⟨h8.blk, h8.sep, fun b k hb hk => h8.out hb hk⟩, ⟨h8.ft.len, h8.ft.var, h8.ft.row, h8.ft.dead⟩, h8.new⟩⟩
  cases e with
  | normal =>
    obtain ⟨tm, m', ρ', k1, k2⟩ := hq
    have e1 : a'.defers = [D] := k2.df
    show Leaves P fn a'.tmps _ a'.defers .returning w'
    rw [e1, ← hD]
    refine leaves_cons (f := df) (args := #[.pointer (some ⟨g4, 0, none⟩), .pointer (some ⟨g5, 0, none⟩)]) (by simp) (hinv _ _) ((hidle _ _ _).mono ?_)
    rintro e u' w'' ⟨rfl, rfl, rfl⟩
    show Leaves P fn a'.tmps _ [] .returning _
    exact fin' tm m' ρ' a' _ k1 k2
  | ret =>
    obtain ⟨tm, m', ρ', k1, k2⟩ := hq
    have e1 : a'.defers = [D] := k2.df
    show Leaves P fn a'.tmps _ a'.defers .returning w'
    rw [e1, ← hD]
    refine leaves_cons (f := df) (args := #[.pointer (some ⟨g4, 0, none⟩), .pointer (some ⟨g5, 0, none⟩)]) (by simp) (hinv _ _) ((hidle _ _ _).mono ?_)
    rintro e u' w'' ⟨rfl, rfl, rfl⟩
    show Leaves P fn a'.tmps _ [] .returning _
    exact fin' tm m' ρ' a' _ k1 k2
  | exit id => obtain ⟨_, _, _, h1, _⟩ := hq; exact h1.elim
  | goto l => exact hq.elim
  | outgrown => exact hq.elim
  | panic ch =>
    obtain ⟨v, rfl, tm, m', ρ', ⟨re, ra, x, y, rfl, oe, oa, q4, q5, hres⟩, k2⟩ := hq
    have e1 : a'.defers = [D] := k2.df
    have f4 : ρ' i4 = .pointer (some ⟨g4, 0, none⟩) := (k2.ft.var i4 c4 (lt_of_get k4) k4).1.trans p4
    have f5 : ρ' i5 = .pointer (some ⟨g5, 0, none⟩) := (k2.ft.var i5 c5 (lt_of_get k5) k5).1.trans p5
    obtain ⟨⟨x4, te, b4, rx⟩, n4⟩ := k2.setVar (v := .int .i64 re) q4 f4 oe rfl
    obtain ⟨⟨x5, th, b5, ry⟩, _⟩ := k2.setVar (v := .int .i64 ra) q5 f5 oa rfl
    obtain rfl := rx.val_eq
    obtain rfl := ry.val_eq
    obtain ⟨_, n5⟩ := n4.setVar (v := .int .i64 ra) (p := .val (.int .i64 y)) (by rw [List.getElem?_set_ne h45]; exact q5) f5 oa rfl
    show Leaves P fn a'.tmps _ a'.defers (.panicking _) w'
    rw [e1, ← hD]
    refine leaves_cons (f := df) (args := #[.pointer (some ⟨g4, 0, none⟩), .pointer (some ⟨g5, 0, none⟩)]) (by simp) (hinv _ _) ((hpan g4 g5 re ra x y te th w' b4 b5 hne).mono ?_)
    rintro e u' w'' ⟨rfl, rfl, ob, rfl⟩
    show Leaves P fn a'.tmps _ [] .returning _
    refine fin' tm _ ρ' a' _ hres (n5.stays ⟨rfl, rfl, rfl, by simp, fun k hk _ => heap_alloc_old _ _ k hk⟩)
end
end Go.V
set_option linter.unusedVariables false
set_option linter.unusedSimpArgs false
namespace Go.V
open Go
/-! a round of a range over a function -/
/-- The fence of a round's frame. -/
abbrev rd (l : Nat) : Fence := Fence.wide.inRound l
def ndOp (o : Oper) : Bool := match o.op with
  | .defer _ => false
  | _ => true
def ndOps (ops : Array Oper) : Bool := ops.toList.all ndOp
def ndCode : Code → Bool
  | .region _ ops _ => ndOps ops
  | .seq a b => ndCode a && ndCode b
  | .cond _ a b => ndCode a && ndCode b
  | .block _ a => ndCode a
  | .loop a => ndCode a
  | .scope _ => false
  | _ => true
section
variable {P : Program} {Q : Exit → Act → World → Prop} {K : Act → World → Prop} {a : Act} {w : World} {l n : Nat} {ops : Array Oper}
theorem wp_in {o : Oper} (hd : ndOp o = true) (h : o.wp P a w K Q) : o.wpIn (rd l) n P a w K Q := by
  refine ⟨fun _ _ => trivial, ?_⟩
  rw [Oper.semAt_eq _ _ _ (fun c hc => by rw [ndOp, hc] at hd; cases hd)]
  unfold Oper.wp at h
  generalize (execOp a.eval o).run P w = r at *
  cases r with
  | ok x w' =>
    cases x with
    | value v => exact h
    | skip => exact h
    | defer d => exact h
    | enter f args => exact ⟨fun h => (by cases h), (callsIn_wide.2 h : CallsIn Fence.wide _ _ _ _ _ _)⟩
    | row row args => exact ⟨fun h => (by cases h), fun c cs _ => by obtain ⟨v, w2, h1, h2⟩ := h c cs; exact ⟨v, w2, h1, stepsIn_wide.2 h2⟩⟩
    | _ => exact h.elim
  | halt x w' => cases x <;> exact h
theorem ndOps_get (h : ndOps ops = true) {i : Nat} {o : Oper} (ho : ops[i]? = some o) : ndOp o = true := List.all_eq_true.1 h o (List.mem_of_getElem? (by rw [Array.getElem?_toList]; exact ho))
theorem list_in (hlo : ¬ LetsOut Q) : ∀ (os : List Oper) (a : Act) (w : World), os.all ndOp = true → wpList P ops Q os a w → wpListIn (rd l) n P ops Q os a w
  | [], a, w, _, h => h
  | o :: os, a, w, hd, h => by
    rw [List.all_cons, Bool.and_eq_true] at hd
    rw [wpList] at h
    rw [wpListIn]
    split
    · rename_i hw
      rw [if_pos hw] at h
      exact Oper.wpIn_mono (fun a w h => list_in hlo os a w hd.2 h) (wp_in hd.1 (h.resolve_right fun h => hlo h.2))
    · rename_i hw
      rw [if_neg hw] at h
      exact ⟨fun _ _ => trivial, list_in hlo os _ _ hd.2 h⟩
theorem region_in_list {id : Nat} (hd : ndCode (.region id ops false) = true) (hlo : ¬ LetsOut Q) (h : wpList P ops Q ops.toList a w) : (Code.region id ops false).wpIn (rd l) n P Q a w :=
  wpIn_region_list (list_in hlo _ _ _ hd h)
theorem any_in {md : Region.Mode} (hd : ndOps ops = true) (hlo : ¬ LetsOut Q) : ∀ (f : Nat) (ls : Array Bool) (a : Act) (w : World), wpAny P md ops Q f ls a w → wpAnyIn (rd l) n P md ops Q f ls a w
  | 0, ls, a, w, h => h
  | f + 1, ls, a, w, h => by
    rw [wpAny] at h
    rw [wpAnyIn]
    refine ⟨h.1, fun i hi => ?_⟩
    have h2 := h.2 i hi
    unfold wpOp at h2
    unfold wpOpIn
    cases ho : ops[i]? with
    | none => rw [ho] at h2; exact any_in hd hlo f _ a w h2
    | some o =>
      rw [ho] at h2
      simp only at h2 ⊢
      split
      · rename_i hw
        rw [if_pos hw] at h2
        exact Oper.wpIn_mono (fun a w h => any_in hd hlo f _ a w h) (wp_in (ndOps_get hd ho) (h2.resolve_right fun h => hlo h.2))
      · rename_i hw
        rw [if_neg hw] at h2
        exact ⟨fun _ _ => trivial, any_in hd hlo f _ _ w h2⟩
end
section
variable {c : Cx} {P : Program} {M M' M2 : Nat → Prop} {w0 w w' : World} {S : Nat → Prop} {N : Nat} {tm : Tm} {m m' m2 : Mem} {ρ ρ' ρ2 : Nat → Value} {a : Act}
variable {lent : FuncId → Bool} {kp : Value → Tm → Mem → Prop} {d : Option Tmp} {ty : TypeId} {pos : String} {af : Array Edge} {g : Option (Nat × Bool)} {k : Tm → Mem → Prop} {Q : Exit → Act → World → Prop}
theorem post_lo {K : KF} : ¬ LetsOut (Post c K) := fun ⟨_, _, h⟩ => h.elim
theorem draw_in {l0 n0 id : Nat} {ops : Array Oper} (hD : ndCode (.region id ops true) = true) (hlo : ¬ LetsOut Q) (hm : c.P.follows .mixedOrders = true) (hQn : ∀ (d : Nat) (v : Value) ch a w, c.kd d = true → Q (.panic ch) (a.put (some d) v) w → Q (.panic ch) a w) (hP : ∀ v a w, Then c (kp v) a w → Q (.panic [{ v := v, recovered := false }]) a w) {k : Tm → Mem → Prop} (hQ : ∀ a w, Then c k a w → Q .normal a w) (hN : okOps c.N ops.toList = true) {t : Option (Tr × List Nat)} (hkd : kdOps c.kd ops = true) (hdr : drawOk ops t = true) (hs : execR c.P c.np lent kp c.n ops k ops.toList tm m t) (h : Inv c tm m ρ a w) : (Code.region id ops true).wpIn (rd l0) n0 c.P Q a w := by
  rw [drawOk, Bool.and_eq_true] at hdr
  refine wpIn_region_any hm (any_in hD hlo _ _ _ _ (anyS_any _ _ _ _ (cover_any hdr.1 (fun i o v ch a w ho hq => ?_) _ _ _ a _ Cl.start hdr.2 ?_)))
  · cases hd : o.dst with
    | none => rw [hd] at hq; exact hq
    | some d => rw [hd] at hq; exact hQn d v ch a w (kdOps_get hkd ho hd) hq
  cases t with
  | none => exact chain_sound hP hQ hN _ 0 _ tm m ρ a _ rfl (by simp) hs h.drew
  | some T =>
    obtain ⟨X, hX, hs⟩ := hs
    refine execT_sound (k := fun tm m => head c.n T.2 tm m X) hP (fun a w hT => ?_) hN T.1 tm m ρ a _ hs h.drew
    obtain ⟨tm1, m1, ρ1, h1, h2⟩ := hT
    obtain ⟨tm2, m2, ρ2, h3, h4⟩ := head_sound h2 h1
    exact hQ _ _ ⟨tm2, m2, ρ2, hX _ _ h3, h4⟩
variable {live : Nat → List Nat} {tr : Nat → Option (Tr × List Nat)}
theorem loop_in {l0 n0 : Nat} {co : Code} (hc : ∀ (K : KF) (tm : Tm) (m : Mem) (ρ : Nat → Value) (a : Act) (w : World), PanK c.kd K → execC c.P c.np lent c.n live tr co K tm m → Inv c tm m ρ a w → co.wpIn (rd l0) n0 c.P (Post c K) a w) {lv : List Nat} {K : KF} (hK : PanK c.kd K) :
    ∀ (tm : Tm) (m : Mem), LoopP c.n (execC c.P c.np lent c.n live tr co) lv K tm m → ∀ (ρ : Nat → Value) (a : Act) (w : World), Inv c tm m ρ a w → ∀ (b : Frame) (kk : List Item) (cs : List Frame), b.roundOf = (rd l0).round →
      ∃ e a' w', Post c K e a' w' ∧ ArrivesIn (Machine.fenced c.P (rd l0)) c.P (lone (b.atR a (.code co :: .inLoop co :: kk)) cs w) b kk cs e a' w' := by
  intro tm m hl
  induction hl with
  | mk X hX hb ih =>
    intro ρ a w h b kk cs hro
    obtain ⟨e, a₁, w₁, hq, harr⟩ := hc (fun e tm' m' => match e with | .normal => head c.n lv tm' m' X | e => K e tm' m') _ _ ρ a w (fun v tm m d hd h => hK v tm m d hd h) hb h b (.inLoop co :: kk) cs hro trivial (room_wide _)
    cases e with
    | normal =>
      obtain ⟨tm1, m1, ρ1, h1, h2⟩ := hq
      obtain ⟨tm2, m2, ρ2, h3, h4⟩ := head_sound h2 h1
      obtain ⟨e₂, a₂, w₂, hq₂, harr₂⟩ := ih tm2 m2 h3 ρ2 a₁ w₁ h4 b kk cs hro
      exact ⟨e₂, a₂, w₂, hq₂, .of_steps (StepsIn.trans harr (.one (fenced_wide _ _) stepR_inLoop)) harr₂⟩
    | exit id => exact ⟨.exit id, a₁, w₁, hq, .pass (x := .inLoop co) rfl (fun _ _ => .inl (by simp)) harr⟩
    | ret => exact ⟨.ret, a₁, w₁, hq, .pass (x := .inLoop co) rfl (fun _ _ => .inl (by simp)) harr⟩
    | goto l => exact hq.elim
    | panic ch => exact ⟨.panic ch, a₁, w₁, hq, .pass (x := .inLoop co) rfl (fun _ _ => .inl (by simp)) harr⟩
    | outgrown => exact hq.elim
theorem execC_in' {l0 n0 : Nat} (hm : c.P.follows .mixedOrders = true) (hk1 : ∀ d, c.kd d = true) : ∀ (co : Code), (∀ (K : KF) (tm : Tm) (m : Mem) (ρ : Nat → Value) (a : Act) (w : World), PanK c.kd K → okCode c.N c.kd tr co = true → ndCode co = true → execC c.P c.np lent c.n live tr co K tm m → Inv c tm m ρ a w → co.wpIn (rd l0) n0 c.P (Post c K) a w) ∧
    ∀ c', co = .loop c' → ∀ (K : KF) (tm : Tm) (m : Mem) (ρ : Nat → Value) (a : Act) (w : World), PanK c.kd K → okCode c.N c.kd tr c' = true → ndCode c' = true → execC c.P c.np lent c.n live tr c' K tm m → Inv c tm m ρ a w → c'.wpIn (rd l0) n0 c.P (Post c K) a w := by
  intro co
  induction co with
  | skip => exact ⟨fun K tm m ρ a w hK hN hD hs h => Go.wpIn_skip (show Then c (K .normal) a w from ⟨tm, m, ρ, by simpa only [execC] using hs, h⟩), fun c' e => by cases e⟩
  | label l => exact ⟨fun K tm m ρ a w hK hN hD hs h => Go.wpIn_label (show Then c (K .normal) a w from ⟨tm, m, ρ, by simpa only [execC] using hs, h⟩), fun c' e => by cases e⟩
  | region id ops draw =>
    refine ⟨fun K tm m ρ a w hK hN hD hs h => ?_, fun c' e => by cases e⟩
    rw [okCode, Bool.and_eq_true] at hN
    cases draw with
    | true => 
      have h2 : kdOps c.kd ops = true ∧ drawOk ops (tr id) = true := by
        have h3 := hN.2
        rw [Bool.not_true, Bool.false_or, Bool.and_eq_true] at h3
        exact ⟨List.all_eq_true.2 fun o _ => by cases o.dst with | none => rfl | some d => exact hk1 d, h3.2⟩
      exact draw_in hD post_lo (k := K .normal) (kp := fun v => K (.pan v)) (Q := Post c K) hm (fun d v ch a w hd h => post_unput hK d v ch a w hd h) (fun v a w h => ⟨v, rfl, h⟩) (fun a w h => h) hN.1 h2.1 h2.2 (by simpa only [execC] using hs) h
    | false =>
      have hs : execOps c.P c.np lent (fun v => K (.pan v)) ops (K .normal) ops.toList tm m := by simpa only [execC] using hs
      exact region_in_list hD post_lo (execOps_sound (k := K .normal) (kp := fun v => K (.pan v)) (Q := Post c K) (fun v a w h => ⟨v, rfl, h⟩) (fun a w h => h) ops.toList tm m ρ a w hN.1 hs h)
  | seq x y ihx ihy =>
    refine ⟨fun K tm m ρ a w hK hN hD hs h => ?_, fun c' e => by cases e⟩
    rw [okCode, Bool.and_eq_true] at hN
    rw [ndCode, Bool.and_eq_true] at hD
    simp only [execC] at hs
    refine Go.wpIn_seq (Go.wpIn_mono (ihx.1 (andThen (execC c.P c.np lent c.n live tr y K) K) tm m ρ a w (fun v tm m d hd h => hK v tm m d hd h) hN.1 hD.1 hs h) fun e a w hq => ?_)
    cases e with
    | normal => obtain ⟨tm1, m1, ρ1, h1, h2⟩ := hq; exact ihy.1 _ tm1 m1 ρ1 a w hK hN.2 hD.2 h1 h2
    | exit id => exact hq
    | ret => exact hq
    | goto l => exact hq.elim
    | panic ch => exact hq
    | outgrown => exact hq.elim
  | cond x0 x y ihx ihy =>
    refine ⟨fun K tm m ρ a w hK hN hD hs h => ?_, fun c' e => by cases e⟩
    rw [okCode, Bool.and_eq_true] at hN
    rw [ndCode, Bool.and_eq_true] at hD
    simp only [execC, ifB] at hs
    obtain ⟨b, hc, hs⟩ := onBool_e hs
    · have hv := (hc ▸ h.ev x0 : Rep c.M w m ρ (.val (.bool b)) (a.eval x0)).val_eq
      refine Go.wpIn_cond hv ?_
      split at hs
      · rename_i e; rw [if_pos e]; exact ihx.1 _ tm m ρ a w hK hN.1 hD.1 hs h
      · rename_i e; rw [if_neg e]; exact ihy.1 _ tm m ρ a w hK hN.2 hD.2 hs h
  | scope x ih => exact ⟨fun K tm m ρ a w hK hN hD hs h => (by cases hD), fun c' e => (by cases e)⟩
  | block id x ih =>
    refine ⟨fun K tm m ρ a w hK hN hD hs h => ?_, fun c' e => by cases e⟩
    rw [okCode] at hN
    by_cases hl : ∃ c', x = .loop c'
    · obtain ⟨c', rfl⟩ := hl
      rw [okCode] at hN
      rw [ndCode, ndCode] at hD
      simp only [execC] at hs
      refine Go.wpIn_block (Go.wpIn_mono (Q := Post c (leave id K)) ?_ post_leave)
      intro b kk cs hro _ _
      obtain ⟨tm2, m2, ρ2, h3, h4⟩ := head_sound h hs
      obtain ⟨e, a', w', hq, harr⟩ := loop_in (K := leave id K) (fun K tm m ρ a w hK hs h => ih.2 c' rfl K tm m ρ a w hK hN hD hs h) (fun v tm m d hd h => hK v tm m d hd h) _ _ h3 ρ2 a w h4 b kk cs hro
      exact ⟨e, a', w', hq, .of_steps (.one (fenced_wide _ _) stepR_loop) harr⟩
    · have hs' : execC c.P c.np lent c.n live tr x (leave id K) tm m := by
        cases x <;> first | (simp only [execC] at hs; done) | (simp only [execC] at hs ⊢; exact hs) | exact absurd ⟨_, rfl⟩ hl
      exact Go.wpIn_block (Go.wpIn_mono (ih.1 (leave id K) tm m ρ a w (fun v tm m d hd h => hK v tm m d hd h) hN hD hs' h) post_leave)
  | loop x ih => exact ⟨fun K tm m ρ a w hK hN hD hs h => by simp [execC] at hs, fun c' e => by cases e; exact ih.1⟩
  | exit id => exact ⟨fun K tm m ρ a w hK hN hD hs h => Go.wpIn_exit (show Then c (K (.exit id)) a w from ⟨tm, m, ρ, by simpa only [execC] using hs, h⟩), fun c' e => by cases e⟩
  | ret => exact ⟨fun K tm m ρ a w hK hN hD hs h => Go.wpIn_ret (show Then c (K .ret) a w from ⟨tm, m, ρ, by simpa only [execC] using hs, h⟩), fun c' e => by cases e⟩
  | _ => exact ⟨fun K tm m ρ a w hK hN hD hs h => by simp [execC] at hs, fun c' e => by cases e⟩
theorem execC_in {l0 n0 : Nat} (hm : c.P.follows .mixedOrders = true) (hk1 : ∀ d, c.kd d = true) {co : Code} {K : KF} (hK : PanK c.kd K) (hN : okCode c.N c.kd tr co = true) (hD : ndCode co = true) (hs : execC c.P c.np lent c.n live tr co K tm m) (h : Inv c tm m ρ a w) : co.wpIn (rd l0) n0 c.P (Post c K) a w := (execC_in' hm hk1 co).1 K tm m ρ a w hK hN hD hs h
end
end Go.V
set_option linter.unusedVariables false
set_option linter.unusedSimpArgs false
namespace Go.V
open Go
/-! memories over worlds that others turn -/
mutual
/-- No pointer to what is only read. -/
def noc : PV → Bool
  | .cad _ => false
  | .agg cs => nocs cs
  | .tup cs => nocs cs
  | .fn _ cs => nocs cs
  | _ => true
def nocs : List PV → Bool
  | [] => true
  | p :: l => noc p && nocs l
end
def nocM : Mem → Bool
  | [] => true
  | .var cs :: l => nocs cs && nocM l
  | .dead :: l => nocM l
  | .row _ _ :: l => nocM l
theorem nocs_get : ∀ {l : List PV} {i : Nat} {p : PV}, nocs l = true → l[i]? = some p → noc p = true
  | q :: l, 0, p, h, hp => by rw [nocs, Bool.and_eq_true] at h; simp at hp; subst hp; exact h.1
  | q :: l, i + 1, p, h, hp => by rw [nocs, Bool.and_eq_true] at h; exact nocs_get h.2 (by simpa using hp)
  | [], i, p, _, hp => by simp at hp
theorem nocM_get : ∀ {l : Mem} {i : Nat} {cs : List PV}, nocM l = true → l[i]? = some (.var cs) → nocs cs = true
  | .var ds :: l, 0, cs, h, hp => by rw [nocM, Bool.and_eq_true] at h; simp at hp; subst hp; exact h.1
  | .dead :: l, 0, cs, h, hp => by simp at hp
  | .row _ _ :: l, 0, cs, h, hp => by simp at hp
  | .var ds :: l, i + 1, cs, h, hp => by rw [nocM, Bool.and_eq_true] at h; exact nocM_get h.2 (by simpa using hp)
  | .dead :: l, i + 1, cs, h, hp => by rw [nocM] at h; exact nocM_get h (by simpa using hp)
  | .row _ _ :: l, i + 1, cs, h, hp => by rw [nocM] at h; exact nocM_get h (by simpa using hp)
  | [], i, cs, _, hp => by simp at hp
section
variable {c : Cx} {P : Program} {M M' : Nat → Prop} {w0 w w' : World} {S : Nat → Prop} {tm : Tm} {m m' : Mem} {ρ ρ' : Nat → Value} {a : Act}
theorem Rep.stayM {p : PV} {v : Value} (h : Rep M w m ρ p v) (hm : Mv (Mine M m ρ) w w') (hn : noc p = true) : Rep M w' m ρ p v := by
  induction h with
  | im h => exact .im (h.move hm fun _ _ h => h)
  | own h => exact .own h
  | osl0 h1 h2 h3 => exact .osl0 h1 h2 h3
  | osl h1 h2 h3 h4 h5 h6 h7 h8 => exact .osl h1 h2 h3 h4 h5 h6 h7 h8
  | adr h1 h2 => exact .adr h1 h2
  | ead h1 h2 h3 h4 => exact .ead h1 h2 h3 h4
  | cad u h1 h2 => rw [noc] at hn; cases hn
  | agg hl _ h1 ih => rw [noc] at hn; exact .agg hl (fun i p v hp hv => ih i p v hp hv (nocs_get hn hp)) h1
  | tup hl _ ih => rw [noc] at hn; exact .tup hl (fun i p v hp hv => ih i p v hp hv (nocs_get hn hp))
  | fn hl _ ih => rw [noc] at hn; exact .fn hl (fun i p v hp hv => ih i p v hp hv (nocs_get hn hp))
theorem MemOk.lt (h : MemOk P M w m ρ) {b k : Nat} (hb : Live m b) (hk : own1 (ρ b) = some k) : k < w.heap.size := by
  obtain ⟨y, hy, hd⟩ := hb
  exact (h.blk b y hy).lt hd hk
/-- What others own is turned alone. -/
theorem MemOk.stayM (h : MemOk P M w m ρ) (hs : Mv S w w') (hS : ∀ k, S k → M k) (hn : nocM m = true) : MemOk P M w' m ρ := by
  have hmv : Mv (Mine M m ρ) w w' := hs.mono fun k hk => .inl (hS k hk)
  have hb : ∀ b k, Live m b → own1 (ρ b) = some k → k < w.heap.size → w'.heap[k]? = w.heap[k]? := fun b k hl hk hlt => hs.block k hlt fun hh => h.out b k hl hk (hS k hh)
  refine ⟨fun b x hx => ?_, h.sep, h.out⟩
  have h0 := h.blk b x hx
  have hbb : x ≠ .dead → ∀ k, own1 (ρ b) = some k → k < w.heap.size → w'.heap[k]? = w.heap[k]? := fun hd k => hb b k ⟨x, hx, hd⟩
  generalize ρ b = v at h0 hbb
  cases h0 with
  | dead => exact .dead
  | var hg hl hj h1 => exact .var ((hbb (by simp) _ rfl (Array.getElem?_eq_some_iff.1 hg).1).trans hg) hl (fun j p v hp hv' => (hj j p v hp hv').stayM hmv (nocs_get (nocM_get hn hx) hp)) h1
  | row hi hz hzs h0 hby hlen ho hss hf hxx h1 =>
    exact .row hi hz hzs h0 hby hlen (ownsRow_move ho (hbb (by simp))) hss hf (fun q j x p hq hj => let ⟨u, h2, h3⟩ := hxx q j x p hq hj; ⟨u, h2, h3.move hmv fun _ _ h => h⟩) h1
theorem Inv.mem (h : Inv c tm m ρ a w) : MemOk c.P c.M w m ρ := ⟨h.blk, h.sep, fun b k hb hk => h.out hb hk⟩
theorem mkInv (hM : ∀ k, M k → k < w.heap.size) (hmem : MemOk P M w m ρ) (ht : ∀ t, Rep M w m ρ (get tm t) (a.tmps.getD t undef)) (n np : Nat) (hn : n ≤ m.length) (kd : Nat → Bool) :
    Inv ⟨P, M, w, Own m ρ, a.tmps.size, n, np, m, ρ, a.defers, kd⟩ tm m ρ a w :=
  ⟨rfl, rfl, ht, hmem.blk, hmem.sep, fun b k hb hk => .inr ⟨b, hb, hk⟩, ⟨rfl, rfl, rfl, Nat.le_refl _, fun _ _ _ => rfl⟩, hM, fun k ⟨b, hb, hk⟩ => hmem.out b k hb hk, hn, fun b cs _ hm => ⟨rfl, cs, hm⟩, fun b e es _ hm => .inr ⟨fun _ => rfl, e, es, hm⟩, fun b _ hm => hm⟩
/-- The memory counted anew from some places; other places' blocks become others'. -/
theorem MemOk.canon (h : MemOk P M w m ρ) {es : List Nat} (hnd : es.Nodup) (H : Nat → Prop) (hH : ∀ b, H b → Live m b ∧ b ∉ es) :
    MemOk P (fun k => M k ∨ ∃ b, H b ∧ own1 (ρ b) = some k) w (canonM 0 m es false) (fun d => ρ (orig 0 es d)) ∧ (∀ p v, Rep M w m ρ p v → Rep (fun k => M k ∨ ∃ b, H b ∧ own1 (ρ b) = some k) w (canonM 0 m es false) (fun d => ρ (orig 0 es d)) (V.ren (pos 0 es) false p) v) ∧ ∀ k, Own (canonM 0 m es false) (fun d => ρ (orig 0 es d)) k → Own m ρ k := by
  have hn : 0 ≤ m.length := Nat.zero_le _
  have hor : ∀ d b, es[d]? = some b → orig 0 es d = b := fun j b hj => by
    unfold orig; rw [if_neg (by omega), Nat.sub_zero, List.getD_eq_getElem?_getD, hj]; rfl
  have hat : ∀ d, Live (canonM 0 m es false) d → ∃ b, es[d]? = some b ∧ Live m b := by
    rintro d ⟨y, hy, hd⟩
    rw [canonM_get hn, if_neg (by omega), Nat.sub_zero] at hy
    obtain ⟨b, hb, rfl⟩ := Option.map_eq_some_iff.1 hy
    refine ⟨b, hb, ?_⟩
    cases hmb : m[b]? with
    | none => rw [hmb] at hd; exact absurd rfl hd
    | some x => rw [hmb] at hd; exact ⟨x, hmb, renB_dead hd⟩
  have hO : ∀ k, Own (canonM 0 m es false) (fun d => ρ (orig 0 es d)) k → Own m ρ k := fun k ⟨d, hd, hk⟩ => by
    obtain ⟨b, hb, hl⟩ := hat d hd
    simp only [hor d b hb] at hk
    exact ⟨b, hl, hk⟩
  have hN : ∀ k, Mine (fun k => M k ∨ ∃ b, H b ∧ own1 (ρ b) = some k) (canonM 0 m es false) (fun d => ρ (orig 0 es d)) k → Mine M m ρ k := by
    rintro k ((hk | ⟨b, hb, hk⟩) | hk)
    · exact .inl hk
    · exact .inr ⟨b, (hH b hb).1, hk⟩
    · exact .inr (hO k hk)
  have hr : ∀ b d e es', pos 0 es b = some d → m[b]? = some (.row e es') → (canonM 0 m es false)[d]? = some (.row e es') ∧ (fun d => ρ (orig 0 es d)) d = ρ b := fun b d e es' h1 h2 => by
    obtain ⟨h3, h4⟩ := pos_at (kc := false) hn h1 h2
    exact ⟨h3, by simp only [h4]⟩
  have hv : ∀ b d cs, pos 0 es b = some d → m[b]? = some (.var cs) → (∃ cs', (canonM 0 m es false)[d]? = some (.var cs')) ∧ (fun d => ρ (orig 0 es d)) d = ρ b := fun b d cs h1 h2 => by
    obtain ⟨h3, h4⟩ := pos_at (kc := false) hn h1 h2
    exact ⟨⟨_, h3⟩, by simp only [h4]⟩
  refine ⟨⟨fun d y hy => ?_, fun d d' k hd hd' hk hk' => ?_, fun d k hd hk => ?_⟩, fun p v hp => hp.ren (.inr hN) (fun e => by cases e) hr hv, hO⟩
  · by_cases hyd : y = .dead
    · subst hyd; exact .dead
    · obtain ⟨x, hx, _, rfl⟩ := canon_at hn hy hyd
      exact (h.blk _ x hx).ren (.inr hN) (fun e => by cases e) hr hv
  · obtain ⟨b, hb, hl⟩ := hat d hd
    obtain ⟨b', hb', hl'⟩ := hat d' hd'
    simp only [hor d b hb] at hk
    simp only [hor d' b' hb'] at hk'
    have := h.sep b b' k hl hl' hk hk'
    subst this
    exact nodup_at hnd hb hb'
  · obtain ⟨b, hb, hl⟩ := hat d hd
    simp only [hor d b hb] at hk
    rintro (hM | ⟨b', hb', hk'⟩)
    · exact h.out b k hl hk hM
    · have := h.sep b b' k hl (hH b' hb').1 hk hk'
      subst this
      exact (hH b hb').2 (List.mem_of_getElem? hb)
end
end Go.V
set_option linter.unusedVariables false
set_option linter.unusedSimpArgs false
namespace Go.V
open Go
/-- A range over a function under way: the function's start, others' blocks, the iterator's two variables, the record, the block for deferred calls, the temporaries at the statement and what is told of them. -/
structure Rg where
  P : Program
  w0 : World
  S0 : Nat → Prop
  M0 : Nat → Prop
  b1 : Nat
  b2 : Nat
  lr : Nat
  D : Nat
  tmps : Array Value
  tm : Tm
  fn : FuncId
  p : Tmp
  as : Code
  bd : Code
def Rg.MB (g : Rg) (k : Nat) : Prop := g.M0 k ∨ k = g.b1 ∨ k = g.b2
def Rg.lp (g : Rg) (st : LoopState) (pe : Option Code) : Loop := { state := st, pending := pe, fn := g.fn, tmps := g.tmps, params := #[g.p], assign := g.as, body := g.bd, defers := g.D }
def slotOk : PV → Bool
  | .adr _ _ => true
  | .val x => okB x
  | .any => true
  | _ => false
def slotsOk : Tm → Bool
  | [] => true
  | (_, p) :: l => slotOk p && slotsOk l
def nocT : Tm → Bool
  | [] => true
  | (_, p) :: l => noc p && nocT l
theorem nocT_get : ∀ {tm : Tm}, nocT tm = true → ∀ t, noc (get tm t) = true
  | [], _, _ => rfl
  | (k, p) :: l, h, t => by
    rw [nocT, Bool.and_eq_true] at h
    rw [get]
    split
    · exact h.1
    · exact nocT_get h.2 t
theorem slotsOk_get : ∀ {tm : Tm}, slotsOk tm = true → ∀ t, slotOk (get tm t) = true
  | [], _, _ => rfl
  | (k, p) :: l, h, t => by
    rw [slotsOk, Bool.and_eq_true] at h
    rw [get]
    split
    · exact h.1
    · exact slotsOk_get h.2 t
theorem slotOk_noc {p : PV} (h : slotOk p = true) : noc p = true := by cases p <;> first | rfl | (simp [slotOk] at h)
structure Rg.Ok (g : Rg) : Prop where
  ne : g.b1 ≠ g.b2
  n1 : ¬ g.M0 g.b1
  n2 : ¬ g.M0 g.b2
  lr : g.M0 g.lr
  D : g.M0 g.D
  lrD : g.lr ≠ g.D
  f1 : g.w0.heap.size ≤ g.b1
  f2 : g.w0.heap.size ≤ g.b2
  flr : g.w0.heap.size ≤ g.lr
  fD : g.w0.heap.size ≤ g.D
  sl : slotsOk g.tm = true
  pN : g.p < g.tmps.size
structure Cal (g : Rg) (m : Mem) (ρ : Nat → Value) (W : World) : Prop where
  mem : MemOk g.P g.MB W m ρ
  noc : nocM m = true
  tm : ∀ t, Rep g.MB W m ρ (get g.tm t) (g.tmps.getD t undef)
  df : W.heap[g.D]? = some (.deferred (some []))
  fr : Fr g.S0 g.w0 W
  new : ∀ b k, Live m b → own1 (ρ b) = some k → g.w0.heap.size ≤ k ∨ g.S0 k
  lt : ∀ k, g.MB k → k < W.heap.size
/-- What turns no more than the iterator's variables and the record turns nothing of the caller's. -/
theorem Cal.move {g : Rg} (hg : g.Ok) {m : Mem} {ρ : Nat → Value} {W W' : World} {S : Nat → Prop} (h : Cal g m ρ W) (hf : Fr S W W') (hS : ∀ k, S k → k = g.b1 ∨ k = g.b2 ∨ k = g.lr) : Cal g m ρ W' := by
  have hM : ∀ k, S k → g.MB k := fun k hk => by
    rcases hS k hk with h | h | h
    · exact .inr (.inl h)
    · exact .inr (.inr h)
    · subst h; exact .inl hg.lr
  refine ⟨h.mem.stayM hf.mv hM h.noc, h.noc, fun t => (h.tm t).stayM (hf.mv.mono fun k hk => .inl (hM k hk)) (slotOk_noc (slotsOk_get hg.sl t)), ?_, ?_, h.new, fun k hk => Nat.lt_of_lt_of_le (h.lt k hk) hf.size⟩
  · refine (hf.block g.D (h.lt _ (.inl hg.D)) fun hh => ?_).trans h.df
    rcases hS _ hh with e | e | e
    · exact hg.n1 (e ▸ hg.D)
    · exact hg.n2 (e ▸ hg.D)
    · exact hg.lrD e.symm
  · refine h.fr.step hf.os hf.tape hf.output hf.size fun k hk _ => hf.block k (Nat.lt_of_lt_of_le hk h.fr.size) fun hh => ?_
    have h1 := hg.f1; have h2 := hg.f2; have h3 := hg.flr
    rcases hS _ hh with e | e | e <;> omega
theorem fr_put {g : Rg} {W : World} (o : Obj) : Fr (fun k => k = g.lr) W (W.putObj g.lr o) :=
  ⟨rfl, rfl, rfl, by simp [World.putObj], fun k _ hk => World.putObj_heap_other hk⟩
/-- The memory at a round's end, counted anew from the slots that stay. -/
def back (tm : Tm) (m : Mem) (Y : Mem → Prop) : Prop :=
  renT (pos 0 (reach 0 m (vals tm))) false tm = tm ∧ nocM (canonM 0 m (reach 0 m (vals tm)) false) = true ∧ Y (canonM 0 m (reach 0 m (vals tm)) false)
def KR (tm : Tm) (Y Z : Mem → Prop) : KF := fun e _ m => match e with
  | .normal => back tm m Y
  | .ret => back tm m Z
  | _ => False
theorem KR_pan {kd : Nat → Bool} {tm : Tm} {Y Z : Mem → Prop} : PanK kd (KR tm Y Z) := fun v tm m d _ h => h
theorem get_renT' (σ : Nat → Option Nat) (kc : Bool) : ∀ (tm : Tm) (t : Nat), get (renT σ kc tm) t = V.ren σ kc (get tm t)
  | [], _ => rfl
  | (k, p) :: l, t => by
    rw [renT, get, get]
    split
    · rfl
    · exact get_renT' σ kc l t
theorem back_sound {g : Rg} (hg : g.Ok) {m m2 : Mem} {ρA ρ2 : Nat → Value} {WB WC : World} {N n np : Nat} {kd : Nat → Bool} {D : List Deferred} {t2 : Tm} {a2 : Act} {Y : Mem → Prop}
    (ht : ∀ t, Rep g.MB WB m ρA (get g.tm t) (g.tmps.getD t undef)) (hn : n = m.length)
    (h : Inv ⟨g.P, g.MB, WB, Own m ρA, N, n, np, m, ρA, D, kd⟩ t2 m2 ρ2 a2 WC) (hb : back g.tm m2 Y) :
    ∃ m3 ρ3, Y m3 ∧ nocM m3 = true ∧ MemOk g.P g.MB WC m3 ρ3 ∧ (∀ t, Rep g.MB WC m3 ρ3 (get g.tm t) (g.tmps.getD t undef)) ∧ ∀ k, Own m3 ρ3 k → Own m2 ρ2 k := by
  obtain ⟨h1, h2, h3⟩ := hb
  obtain ⟨r1, r2⟩ := reach_spec 0 m2 (vals g.tm)
  obtain ⟨q1, q2, _⟩ := MemOk.canon h.mem (H := fun _ => False) r1 (fun b hb => hb.elim)
  have eM : (fun k => g.MB k ∨ ∃ b, False ∧ own1 (ρ2 b) = some k) = g.MB := by funext k; simp
  simp only [eM] at q1 q2
  refine ⟨_, _, h3, h2, q1, fun t => ?_, ?_⟩
  · have e : V.ren (pos 0 (reach 0 m2 (vals g.tm))) false (get g.tm t) = get g.tm t := by rw [← get_renT', h1]
    suffices key : Rep g.MB WC m2 ρ2 (get g.tm t) (g.tmps.getD t undef) by
      have := q2 _ _ key
      rwa [e] at this
    have h4 := ht t
    have h5 := slotsOk_get hg.sl t
    generalize get g.tm t = p at h4 h5
    generalize g.tmps.getD t undef = v at h4
    cases p <;> first | (simp [slotOk] at h5; done) | skip
    · obtain rfl := h4.val_eq
      exact .im (.val h5)
    · exact .im .any
    · rename_i b o
      cases h4 with
      | im h => cases h
      | adr hb hp =>
        have h6 := h.ft.var b _ (by show b < n; rw [hn]; exact lt_of_get hb) hb
        exact .adr h6.2.choose_spec (h6.1.trans hp)
  · rintro k ⟨d, ⟨y, hy, hyd⟩, hk⟩
    obtain ⟨x, hx, hxd, _⟩ := canon_at (Nat.zero_le _) hy hyd
    exact ⟨_, ⟨x, hx, hxd⟩, hk⟩
theorem slots_keep {M : Nat → Prop} {P : Program} {tm : Tm} {tmps : Array Value} (hsl : slotsOk tm = true) {m m2 : Mem} {ρA ρ2 : Nat → Value} {WB WC : World} {N n np : Nat} {kd : Nat → Bool} {D : List Deferred} {t2 : Tm} {a2 : Act}
    (ht : ∀ t, Rep M WB m ρA (get tm t) (tmps.getD t undef)) (hn : n = m.length) (h : Inv ⟨P, M, WB, Own m ρA, N, n, np, m, ρA, D, kd⟩ t2 m2 ρ2 a2 WC) (t : Nat) : Rep M WC m2 ρ2 (get tm t) (tmps.getD t undef) := by
  have h4 := ht t
  have h5 := slotsOk_get hsl t
  generalize get tm t = p at h4 h5
  generalize tmps.getD t undef = v at h4
  cases p <;> first | (simp [slotOk] at h5; done) | skip
  · obtain rfl := h4.val_eq
    exact .im (.val h5)
  · exact .im .any
  · rename_i b o
    cases h4 with
    | im h => cases h
    | adr hb hp =>
      have h6 := h.ft.var b _ (by show b < n; rw [hn]; exact lt_of_get hb) hb
      exact .adr h6.2.choose_spec (h6.1.trans hp)
theorem Fr.trans' {S S' T : Nat → Prop} {w w1 w2 : World} (h : Fr S w w1) (g : Fr S' w1 w2) (hS : ∀ k, S k → T k) (hS' : ∀ k, k < w.heap.size → S' k → T k) : Fr T w w2 :=
  ⟨g.os.trans h.os, g.tape.trans h.tape, g.output.trans h.output, Nat.le_trans h.size g.size, fun k hk hT => (g.block k (Nat.lt_of_lt_of_le hk h.size) fun hh => hT (hS' k hk hh)).trans (h.block k hk fun hh => hT (hS k hh))⟩
/-- How a round ends. -/
def Ended (g : Rg) (Y Z : Mem → Prop) (m : Mem) (ρ : Nat → Value) (W : World) (e : Ending) (W' : World) : Prop :=
  ∃ m2 ρ2, Cal g m2 ρ2 W' ∧ Fr (fun k => Own m ρ k ∨ k = g.lr) W W' ∧ (∀ k, Own m2 ρ2 k → W.heap.size ≤ k ∨ Own m ρ k) ∧
    ((e = .returned (.bool true) ∧ Y m2 ∧ W'.heap[g.lr]? = some (.loop (g.lp .ready none))) ∨ (e = .returned (.bool false) ∧ Z m2 ∧ W'.heap[g.lr]? = some (.loop (g.lp .done (some .ret)))))
theorem round_ok {g : Rg} (hm : g.P.follows .mixedOrders = true) (hg : g.Ok) {Y Z : Mem → Prop} {lent : FuncId → Bool} {live : Nat → List Nat} {tr : Nat → Option (Tr × List Nat)} {n : Nat}
    (hA : okCode g.tmps.size (fun _ => true) tr g.as = true) (hA2 : ndCode g.as = true) (hB : okCode g.tmps.size (fun _ => true) tr g.bd = true) (hB2 : ndCode g.bd = true)
    {m : Mem} {ρ : Nat → Value} {W : World} {v : Value} {run : List (List PV)} (hc : Cal g m ρ W) (hl : W.heap[g.lr]? = some (.loop (g.lp .ready none))) (hv : Im W (Mine g.MB m ρ) (.sl run) v)
    (hs : execC g.P 0 lent m.length live tr g.as (onlyN fun t' m' => m' = m ∧ nocT t' = true ∧ execC g.P 0 lent m.length live tr g.bd (KR g.tm Y Z) t' m') (put g.tm (some g.p) (.sl run)) m) :
    RoundIn Fence.wide n g.P g.lr g.fn (g.tmps.setIfInBounds g.p v) g.as g.bd W (Ended g Y Z m ρ W) := by
  have hlrM : g.MB g.lr := .inl hg.lr
  have hDM : g.MB g.D := .inl hg.D
  have nO : ∀ {k}, g.MB k → ¬ Own m ρ k := fun hk ⟨b, hb, hk'⟩ => hc.mem.out b _ hb hk' hk
  have h0 := mkInv (a := { tmps := g.tmps.setIfInBounds g.p v, defers := [] }) (tm := put g.tm (some g.p) (.sl run)) hc.lt hc.mem (fun t => by
    rw [get_put]
    by_cases e : g.p = t
    · subst e; rw [if_pos rfl, Array.getD_eq_getD_getElem?, Array.getElem?_setIfInBounds_self_of_lt hg.pN]; exact .im hv
    · rw [if_neg e, Array.getD_eq_getD_getElem?, Array.getElem?_setIfInBounds_ne e, ← Array.getD_eq_getD_getElem?]; exact hc.tm t) m.length 0 (Nat.le_refl _) (fun _ => true)
  have hs0 : (g.tmps.setIfInBounds g.p v).size = g.tmps.size := by simp
  refine roundIn_of_wpIn trivial (Go.wpIn_mono (execC_in hm (fun _ => rfl) onlyN_pan (by show okCode (g.tmps.setIfInBounds g.p v).size _ _ _ = true; rw [hs0]; exact hA) hA2 hs h0) fun e a1 W1 hq => ?_)
  cases e with
  | exit id => obtain ⟨_, _, _, h1, _⟩ := hq; exact h1.elim
  | ret => obtain ⟨_, _, _, h1, _⟩ := hq; exact h1.elim
  | goto l => exact hq.elim
  | outgrown => exact hq.elim
  | panic ch => obtain ⟨v, _, _, _, _, h1, _⟩ := hq; exact h1.elim
  | normal =>
  obtain ⟨t1, m1, ρ1, ⟨rfl, hn1, hs1⟩, h1⟩ := hq
  have hltr := hc.lt _ hlrM
  have hl1 : W1.heap[g.lr]? = some (.loop (g.lp .ready none)) := (h1.fr.block g.lr hltr (nO hlrM)).trans hl
  refine ⟨_, run_beginRound hl1 rfl, ?_⟩
  have hp1 : Fr (fun k => k = g.lr) W1 (W1.putObj g.lr (.loop { g.lp .ready none with state := .busy })) := fr_put _
  have hl2 : (W1.putObj g.lr (.loop { g.lp .ready none with state := .busy })).heap[g.lr]? = some (.loop { g.lp .ready none with state := .busy }) := World.putObj_heap_same (Nat.lt_of_lt_of_le hltr h1.fr.size)
  generalize W1.putObj g.lr (.loop { g.lp .ready none with state := .busy }) = W2 at hp1 hl2
  have hO1 : ∀ k, Own m1 ρ1 k → W.heap.size ≤ k ∨ Own m1 ρ k := fun k ⟨b, hb, hk⟩ => h1.new b k hb hk
  have hlM : ∀ k, k = g.lr → g.MB k := fun k hk => hk ▸ hlrM
  have hm2 : MemOk g.P g.MB W2 m1 ρ1 := h1.mem.stayM hp1.mv hlM hc.noc
  have ht2 : ∀ t, Rep g.MB W2 m1 ρ1 (get t1 t) (a1.tmps.getD t undef) := fun t => (h1.tm t).stayM (hp1.mv.mono fun k hk => .inl (hlM k hk)) (nocT_get hn1 t)
  have hg2 : ∀ t, Rep g.MB W2 m1 ρ1 (get g.tm t) (g.tmps.getD t undef) := fun t => (slots_keep hg.sl hc.tm rfl h1 t).stayM (hp1.mv.mono fun k hk => .inl (hlM k hk)) (slotOk_noc (slotsOk_get hg.sl t))
  have hlt2 : ∀ k, g.MB k → k < W2.heap.size := fun k hk => Nat.lt_of_lt_of_le (hc.lt k hk) (Nat.le_trans h1.fr.size hp1.size)
  have hsz : a1.tmps.size = g.tmps.size := h1.sz.trans hs0
  have h2 := mkInv (a := a1) hlt2 hm2 ht2 m1.length 0 (Nat.le_refl _) (fun _ => true)
  refine Go.wpIn_mono (execC_in hm (fun _ => rfl) KR_pan (by show okCode a1.tmps.size _ _ _ = true; rw [hsz]; exact hB) hB2 hs1 h2) fun e a3 W3 hq => ?_
  have nO1 : ∀ {k}, g.MB k → ¬ Own m1 ρ1 k := fun hk ⟨b, hb, hk'⟩ => hm2.out b _ hb hk' hk
  have fin : ∀ {t3 : Tm} {m3 : Mem} {ρ3 : Nat → Value} {V : Mem → Prop} (o : Obj), back g.tm m3 V → Inv ⟨g.P, g.MB, W2, Own m1 ρ1, a1.tmps.size, m1.length, 0, m1, ρ1, a1.defers, fun _ => true⟩ t3 m3 ρ3 a3 W3 →
      W3.heap[g.lr]? = some (.loop { g.lp .ready none with state := .busy }) ∧ ∃ m4 ρ4, V m4 ∧ Cal g m4 ρ4 (W3.putObj g.lr o) ∧ Fr (fun k => Own m1 ρ k ∨ k = g.lr) W (W3.putObj g.lr o) ∧ (∀ k, Own m4 ρ4 k → W.heap.size ≤ k ∨ Own m1 ρ k) ∧ (W3.putObj g.lr o).heap[g.lr]? = some o := by
    intro t3 m3 ρ3 V o hb h3
    have hltr2 : g.lr < W2.heap.size := hlt2 _ hlrM
    have hl3 : W3.heap[g.lr]? = some (.loop { g.lp .ready none with state := .busy }) := (h3.fr.block g.lr hltr2 (nO1 hlrM)).trans hl2
    obtain ⟨m4, ρ4, hV, hn4, hmem4, ht4, hO4⟩ := back_sound hg hg2 rfl h3 hb
    have hF : Fr (fun k => Own m1 ρ k ∨ k = g.lr) W W3 := (h1.fr.trans' (T := fun k => Own m1 ρ k ∨ k = g.lr) hp1 (fun k hk => .inl hk) (fun k _ hk => .inr hk)).trans' h3.fr (fun k hk => hk) (fun k hk hO => by
      rcases hO1 k hO with h | h
      · have hk2 : k < W.heap.size := hk
        omega
      · exact .inl h)
    have hO : ∀ k, Own m4 ρ4 k → W.heap.size ≤ k ∨ Own m1 ρ k := fun k hk => by
      obtain ⟨b, hb, hk'⟩ := hO4 k hk
      rcases h3.new b k hb hk' with h | h
      · have e1 : W.heap.size ≤ W1.heap.size := h1.fr.size
        have e2 := hp1.size
        have e3 : W2.heap.size ≤ k := h
        exact .inl (by omega)
      · exact hO1 k h
    have hcal : Cal g m4 ρ4 W3 := by
      refine ⟨hmem4, hn4, ht4, (hF.block g.D (hc.lt _ hDM) fun hh => ?_).trans hc.df, ?_, fun b k hb hk => ?_, fun k hk => Nat.lt_of_lt_of_le (hc.lt k hk) hF.size⟩
      · rcases hh with hh | hh
        · exact nO hDM hh
        · exact hg.lrD hh.symm
      · refine hc.fr.step hF.os hF.tape hF.output hF.size fun k hk hS => hF.block k (Nat.lt_of_lt_of_le hk hc.fr.size) fun hh => ?_
        rcases hh with ⟨b, hb, hk'⟩ | hh
        · rcases hc.new b k hb hk' with h | h
          · omega
          · exact hS h
        · have := hg.flr; omega
      · rcases hO k ⟨b, hb, hk⟩ with h | ⟨b', hb', hk'⟩
        · have := hc.fr.size; exact .inl (by omega)
        · exact hc.new b' k hb' hk'
    exact ⟨hl3, m4, ρ4, hV, hcal.move hg (fr_put o) (fun k hk => .inr (.inr hk)), hF.trans' (fr_put o) (fun k hk => hk) (fun k _ hk => .inr hk), hO, World.putObj_heap_same (Nat.lt_of_lt_of_le hltr2 h3.fr.size)⟩
  cases e with
  | exit id => obtain ⟨_, _, _, h1, _⟩ := hq; exact h1.elim
  | goto l => exact hq.elim
  | outgrown => exact hq.elim
  | panic ch => obtain ⟨v, _, _, _, _, h1, _⟩ := hq; exact h1.elim
  | normal =>
    obtain ⟨t3, m3, ρ3, hb, h3⟩ := hq
    obtain ⟨hl3, m4, ρ4, hV, hcal, hF, hO, hl4⟩ := fin (.loop { { g.lp .ready none with state := .busy } with state := if (none : Option Code).isNone then .ready else .done, pending := none }) hb h3
    exact ⟨_, _, run_endRound none hl3, m4, ρ4, hcal, hF, hO, .inl ⟨rfl, hV, hl4⟩⟩
  | ret =>
    obtain ⟨t3, m3, ρ3, hb, h3⟩ := hq
    obtain ⟨hl3, m4, ρ4, hV, hcal, hF, hO, hl4⟩ := fin (.loop { { g.lp .ready none with state := .busy } with state := if (some Code.ret).isNone then .ready else .done, pending := some .ret }) hb h3
    exact ⟨_, _, run_endRound (some .ret) hl3, m4, ρ4, hcal, hF, hO, .inr ⟨rfl, hV, hl4⟩⟩
end Go.V
set_option linter.unusedVariables false
set_option linter.unusedSimpArgs false
namespace Go.V
open Go
theorem yield_run {P : Program} {a : Act} {W : World} {o : Oper} {ty ta l : Nat} {ts : Array TypeId} {f : FuncId} {tms : Array Value} {as bd : Code} (ho : o.op = .call { callee := .value (.tmp ty), args := #[.tmp ta], argTypes := ts }) (hy : a.tmps.getD ty undef = .func (.yield l) #[] #[])
    (hrun : (Instr.yield l #[a.tmps.getD ta undef]).run P W = .ok (.round l f tms as bd) W) : (execOp a.eval o).run P W = .ok (.round l f tms as bd) W := by
  simp only [Array.getD_eq_getD_getElem?] at hy hrun
  simp [execOp, ho, resolve, invoke, Act.eval, hy, hrun, Deferred.ofValue]
/-- A loop that is under way. -/
def LoopAt (P : Program) (c : Code) (Q : Exit → Act → World → Prop) (a : Act) (w : World) : Prop :=
  ∀ (b : Frame) (k : List Item) (cs : List Frame), b.roundOf = none → ∃ e a' w', Q e a' w' ∧ ArrivesIn (Machine.fenced P Fence.wide) P (lone (b.atR a (.code c :: .inLoop c :: k)) cs w) b k cs e a' w'
theorem LoopAt.mk {P : Program} {c : Code} {Q : Exit → Act → World → Prop} {a : Act} {w : World} {n : Nat} (h : c.wpIn Fence.wide n P (Exit.then (LoopAt P c Q) Q) a w) : LoopAt P c Q a w := by
  intro b k cs hro
  obtain ⟨e, a₁, w₁, hq, harr⟩ := h b (.inLoop c :: k) cs hro trivial (room_wide _)
  cases e with
  | normal =>
    obtain ⟨e₂, a₂, w₂, hq₂, harr₂⟩ := hq b k cs hro
    exact ⟨e₂, a₂, w₂, hq₂, .of_steps (StepsIn.trans harr (.one (fenced_wide _ _) stepR_inLoop)) harr₂⟩
  | exit id => exact ⟨_, a₁, w₁, hq, .pass (x := .inLoop c) rfl (fun _ _ => .inl (by simp)) harr⟩
  | ret => exact ⟨_, a₁, w₁, hq, .pass (x := .inLoop c) rfl (fun _ _ => .inl (by simp)) harr⟩
  | goto l => exact ⟨_, a₁, w₁, hq, .pass (x := .inLoop c) rfl (fun _ _ => .inl (by simp)) harr⟩
  | panic ch => exact ⟨_, a₁, w₁, hq, .pass (x := .inLoop c) rfl (fun _ _ => .inl (by simp)) harr⟩
  | outgrown => exact ⟨_, a₁, w₁, hq, .pass (x := .inLoop c) rfl (fun _ _ => .inl (by simp)) harr⟩
theorem LoopAt.loop {P : Program} {c : Code} {Q : Exit → Act → World → Prop} {a : Act} {w : World} {n : Nat} (h : LoopAt P c Q a w) : (Code.loop c).wpIn Fence.wide n P Q a w := fun b k cs hro _ _ =>
  let ⟨e, a', w', q, r⟩ := h b k cs hro
  ⟨e, a', w', q, .of_steps (.one (fenced_wide _ _) stepR_loop) r⟩
theorem wp_wide {P : Program} {Q Q' : Exit → Act → World → Prop} {K : Act → World → Prop} {a : Act} {w : World} {n : Nat} {o : Oper} (hp : ∀ ch a w, ¬ Q' (.panic ch) a w) (hlo : ¬ LetsOut Q') (h : o.wp P a w K Q') : o.wpIn Fence.wide n P a w K Q := by
  refine ⟨fun _ _ => trivial, ?_⟩
  rw [show Fence.wide.round = none from rfl, Oper.semAt_none]
  unfold Oper.wp at h
  generalize (execOp a.eval o).run P w = r at *
  cases r with
  | ok x w' =>
    cases x with
    | value v => exact h
    | skip => exact h
    | defer d => exact h
    | enter f args =>
      refine ⟨fun h => (by cases h), (callsIn_wide.2 h : CallsIn Fence.wide _ _ _ _ _ _).mono fun e w'' he => ?_⟩
      cases e with
      | returned v => exact he
      | panicked ch => exact absurd he (hp _ _ _)
      | outgrown => exact absurd he hlo
    | row row args => exact ⟨fun h => (by cases h), fun c cs _ => by obtain ⟨v, w2, h1, h2⟩ := h c cs; exact ⟨v, w2, h1, stepsIn_wide.2 h2⟩⟩
    | _ => exact h.elim
  | halt x w' => cases x <;> first | exact h.elim | exact absurd h (hp _ _ _)
theorem list_wide {P : Program} {ops : Array Oper} {Q Q' : Exit → Act → World → Prop} {n : Nat} {rest : List Oper} (hp : ∀ ch a w, ¬ Q' (.panic ch) a w) (hlo : ¬ LetsOut Q') (hQ : ∀ a w, Q' .normal a w → wpListIn Fence.wide n P ops Q rest a w) : ∀ (os : List Oper) (a : Act) (w : World), wpList P ops Q' os a w → wpListIn Fence.wide n P ops Q (os ++ rest) a w
  | [], a, w, h => hQ a w h
  | o :: os, a, w, h => by
    rw [wpList] at h
    rw [List.cons_append, wpListIn]
    split
    · rename_i hw
      rw [if_pos hw] at h
      exact Oper.wpIn_mono (fun a w h => list_wide hp hlo hQ os a w h) (wp_wide hp hlo (h.resolve_right fun h => hlo h.2))
    · rename_i hw
      rw [if_neg hw] at h
      exact ⟨fun _ _ => trivial, list_wide hp hlo hQ os _ _ h⟩
/-- What is told of the iterator's variables. -/
structure It (g : Rg) (cmp : FuncId) (es : List (List PV)) (m : Mem) (ρ : Nat → Value) (W : World) : Prop where
  c1 : ∃ v te, W.heap[g.b1]? = some (.cells #[v] te (0, 0)) ∧ v.oneCell' = true ∧ Im W (Mine g.MB m ρ) (.sl es) v
  c2 : ∃ te, W.heap[g.b2]? = some (.cells #[.func (.func cmp) #[] #[]] te (0, 0))
theorem It.move {g : Rg} {cmp : FuncId} {es : List (List PV)} {m m2 : Mem} {ρ ρ2 : Nat → Value} {W W' : World} (hg : g.Ok) (hc : Cal g m ρ W) (h : It g cmp es m ρ W) (hf : Fr (fun k => Own m ρ k ∨ k = g.lr) W W') (hO : ∀ k, Own m2 ρ2 k → W.heap.size ≤ k ∨ Own m ρ k) : It g cmp es m2 ρ2 W' := by
  have k1 : g.MB g.b1 := .inr (.inl rfl)
  have k2 : g.MB g.b2 := .inr (.inr rfl)
  have nO : ∀ {k}, g.MB k → ¬ Own m ρ k := fun hk ⟨b, hb, hk'⟩ => hc.mem.out b _ hb hk' hk
  obtain ⟨v, te, h1, h2, h3⟩ := h.c1
  obtain ⟨te2, h4⟩ := h.c2
  refine ⟨⟨v, te, (hf.block _ (hc.lt _ k1) fun hh => ?_).trans h1, h2, h3.move (hf.mv.mono fun k hk => ?_) fun k hk hh => ?_⟩, ⟨te2, (hf.block _ (hc.lt _ k2) fun hh => ?_).trans h4⟩⟩
  · rcases hh with hh | hh
    · exact nO k1 hh
    · exact hg.n1 (hh ▸ hg.lr)
  · rcases hk with hk | hk
    · exact .inr hk
    · exact .inl (.inl (hk ▸ hg.lr))
  · rcases hh with hh | hh
    · exact .inl hh
    · rcases hO k hh with h | h
      · omega
      · exact .inr h
  · rcases hh with hh | hh
    · exact nO k2 hh
    · exact hg.n2 (hh ▸ hg.lr)
def mI (cmp : FuncId) (es : List (List PV)) : Mem := [.var [.sl es], .var [.fn cmp []]]
def ρI (g : Rg) : Nat → Value := fun b => if b = 0 then .pointer (some ⟨g.b1, 0, none⟩) else .pointer (some ⟨g.b2, 0, none⟩)
def Rg.MI (g : Rg) (m : Mem) (ρ : Nat → Value) (k : Nat) : Prop := g.M0 k ∨ Own m ρ k
theorem own_mI {g : Rg} {cmp : FuncId} {es : List (List PV)} {ρ' : Nat → Value} (h0 : ρ' 0 = ρI g 0) (h1 : ρ' 1 = ρI g 1) (k : Nat) : Own (mI cmp es) ρ' k ↔ k = g.b1 ∨ k = g.b2 := by
  constructor
  · rintro ⟨b, ⟨x, hx, _⟩, hk⟩
    match b, hx with
    | 0, _ => rw [h0] at hk; simp [ρI, own1] at hk; exact .inl hk.symm
    | 1, _ => rw [h1] at hk; simp [ρI, own1] at hk; exact .inr hk.symm
    | b + 2, hx => simp [mI] at hx
  · rintro (rfl | rfl)
    · exact ⟨0, ⟨_, rfl, by simp⟩, by rw [h0]; rfl⟩
    · exact ⟨1, ⟨_, rfl, by simp⟩, by rw [h1]; rfl⟩
/-- A slot of the iterator's. -/
def slI (g : Rg) (p : PV) (v : Value) : Prop := p = .any ∨ (p = .adr 0 0 ∧ v = .pointer (some ⟨g.b1, 0, none⟩)) ∨ (p = .adr 1 0 ∧ v = .pointer (some ⟨g.b2, 0, none⟩)) ∨ (p = .val v ∧ okB v = true)
theorem it_inv {g : Rg} (hg : g.Ok) {cmp : FuncId} {es : List (List PV)} {m : Mem} {ρ : Nat → Value} {W : World} {tm : Tm} {a : Act} (hc : Cal g m ρ W) (hi : It g cmp es m ρ W) (ht : ∀ t, slI g (get tm t) (a.tmps.getD t undef)) :
    Inv ⟨g.P, g.MI m ρ, W, Own (mI cmp es) (ρI g), a.tmps.size, 2, 0, mI cmp es, ρI g, a.defers, fun _ => true⟩ tm (mI cmp es) (ρI g) a W := by
  obtain ⟨v, te, h1, h2, h3⟩ := hi.c1
  obtain ⟨te2, h4⟩ := hi.c2
  have hsub : ∀ k, Mine (g.MI m ρ) (mI cmp es) (ρI g) k → Mine g.MB m ρ k := by
    rintro k ((hk | hk) | hk)
    · exact .inl (.inl hk)
    · exact .inr hk
    · rcases (own_mI rfl rfl k).1 hk with h | h
      · exact .inl (.inr (.inl h))
      · exact .inl (.inr (.inr h))
  have hM : ∀ k, g.MI m ρ k → k < W.heap.size := fun k hk => by
    rcases hk with hk | ⟨b, hb, hk⟩
    · exact hc.lt k (.inl hk)
    · exact hc.mem.lt hb hk
  have hmem : MemOk g.P (g.MI m ρ) W (mI cmp es) (ρI g) := by
    refine ⟨fun b x hx => ?_, fun b b' k hb hb' hk hk' => ?_, fun b k hb hk => ?_⟩
    · match b, hx with
      | 0, hx =>
        simp [mI] at hx; subst hx
        refine .var h1 rfl (fun j p u hj hu => ?_) (fun u hu => by simp at hu; subst hu; exact h2)
        match j, hj with
        | 0, hj => simp at hj hu; subst hj; subst hu; exact .im (h3.sub hsub)
        | j + 1, hj => simp at hj
      | 1, hx =>
        simp [mI] at hx; subst hx
        refine .var h4 rfl (fun j p u hj hu => ?_) (fun u hu => by simp at hu; subst hu; rfl)
        match j, hj with
        | 0, hj => simp at hj hu; subst hj; subst hu; exact .fn rfl (fun i p v hp _ => by simp at hp)
        | j + 1, hj => simp at hj
      | b + 2, hx => simp [mI] at hx
    · obtain ⟨x, hx, _⟩ := hb
      obtain ⟨x', hx', _⟩ := hb'
      have := hg.ne
      match b, b', hx, hx' with
      | 0, 0, _, _ => rfl
      | 1, 1, _, _ => rfl
      | 0, 1, _, _ => simp [ρI, own1] at hk hk'; exact absurd (hk.trans hk'.symm) hg.ne
      | 1, 0, _, _ => simp [ρI, own1] at hk hk'; exact absurd (hk'.trans hk.symm) hg.ne
      | b + 2, _, hx, _ => simp [mI] at hx
      | 0, b + 2, _, hx => simp [mI] at hx
      | 1, b + 2, _, hx => simp [mI] at hx
    · rcases (own_mI rfl rfl k).1 ⟨b, hb, hk⟩ with rfl | rfl
      · rintro (h | ⟨b', hb', hk'⟩)
        · exact hg.n1 h
        · exact hc.mem.out b' _ hb' hk' (.inr (.inl rfl))
      · rintro (h | ⟨b', hb', hk'⟩)
        · exact hg.n2 h
        · exact hc.mem.out b' _ hb' hk' (.inr (.inr rfl))
  refine mkInv hM hmem (fun t => ?_) 2 0 (Nat.le_refl _) _
  rcases ht t with e | ⟨e, e'⟩ | ⟨e, e'⟩ | ⟨e, e'⟩
  · rw [e]; exact .im .any
  · rw [e, e']; exact .adr rfl rfl
  · rw [e, e']; exact .adr rfl rfl
  · rw [e]; exact .im (.val e')
/-- Behind a piece of the iterator's code. -/
theorem it_back {g : Rg} (hg : g.Ok) {cmp : FuncId} {es es' : List (List PV)} {m : Mem} {ρ ρ' : Nat → Value} {W W' : World} {tm' : Tm} {a' : Act} {N : Nat} {D : List Deferred} (hc : Cal g m ρ W)
    (h : Inv ⟨g.P, g.MI m ρ, W, Own (mI cmp es) (ρI g), N, 2, 0, mI cmp es, ρI g, D, fun _ => true⟩ tm' (mI cmp es') ρ' a' W') :
    Cal g m ρ W' ∧ It g cmp es' m ρ W' ∧ Fr (fun k => k = g.b1 ∨ k = g.b2) W W' ∧ (get tm' 1 = .adr 0 0 → a'.tmps.getD 1 undef = .pointer (some ⟨g.b1, 0, none⟩)) ∧ (get tm' 2 = .adr 1 0 → a'.tmps.getD 2 undef = .pointer (some ⟨g.b2, 0, none⟩)) ∧ (∀ t x, get tm' t = .val x → a'.tmps.getD t undef = x) ∧ ∀ t rs, get tm' t = .sl rs → Im W' (Mine g.MB m ρ) (.sl rs) (a'.tmps.getD t undef) := by
  have h0 : ρ' 0 = ρI g 0 := (h.ft.var 0 _ (by decide : 0 < 2) rfl).1
  have h1 : ρ' 1 = ρI g 1 := (h.ft.var 1 _ (by decide : 1 < 2) rfl).1
  have hf : Fr (fun k => k = g.b1 ∨ k = g.b2) W W' := h.fr.sub fun k hk => (own_mI rfl rfl k).1 hk
  have hsub : ∀ k, Mine g.MB m ρ k → Mine (g.MI m ρ) (mI cmp es') ρ' k := by
    rintro k ((hk | hk | hk) | hk)
    · exact .inl (.inl hk)
    · exact .inr ((own_mI h0 h1 k).2 (.inl hk))
    · exact .inr ((own_mI h0 h1 k).2 (.inr hk))
    · exact .inl (.inr hk)
  refine ⟨hc.move hg hf (fun k hk => hk.elim .inl fun h => .inr (.inl h)), ⟨?_, ?_⟩, hf, fun ht => ?_, fun ht => ?_, fun t x ht => (ht ▸ h.tm t : Rep _ _ _ _ (.val x) _).val_eq, fun t rs ht => ?_⟩
  · have hb := h.blk 0 _ rfl
    rw [h0] at hb
    cases hb with
    | var hg1 hl hj hone =>
      rename_i te vs
      obtain ⟨l⟩ := vs
      match l, hl with
      | [v], _ =>
        have hr := hj 0 _ v rfl rfl
        cases hr with
        | im him => exact ⟨v, te, hg1, hone v (by simp), him.sub hsub⟩
  · have hb := h.blk 1 _ rfl
    rw [h1] at hb
    cases hb with
    | var hg1 hl hj hone =>
      rename_i te vs
      obtain ⟨l⟩ := vs
      match l, hl with
      | [v], _ =>
        have hr := hj 0 _ v rfl rfl
        have : v = .func (.func cmp) #[] #[] := by
          cases hr with
          | im him => cases him with
            | fn hl' _ => rw [Array.eq_empty_of_size_eq_zero hl'.symm]
          | fn hl' _ => rw [Array.eq_empty_of_size_eq_zero hl'.symm]
        subst this
        exact ⟨te, hg1⟩
  · have hr := h.tm 1
    rw [ht] at hr
    generalize a'.tmps.getD 1 undef = v at hr
    cases hr with
    | im hh => cases hh
    | adr _ hp => rw [h0] at hp; simp [ρI] at hp; rw [hp]
  · have hr := h.tm 2
    rw [ht] at hr
    generalize a'.tmps.getD 2 undef = v at hr
    cases hr with
    | im hh => cases hh
    | adr _ hp => rw [h1] at hp; simp [ρI] at hp; rw [hp]
  · have hr := h.tm t
    rw [ht] at hr
    cases hr with
    | im hh => exact hh.sub hsub
end Go.V
set_option linter.unusedVariables false
set_option linter.unusedSimpArgs false
namespace Go.V
open Go
/-- The iterator's code: it hands on a piece of its row, again and again. -/
structure Itc where
  ra : Code
  c7 : Tmp
  ix : Nat
  ib : Nat
  rb : Code
  lp : Code
  id4 : Nat
  l4 : List Oper
  o4 : Oper
  o5 : Oper
  c31 : Tmp
  rc : Code
  N : Nat
  ty : Tmp
  ta : Tmp
  tr : Tmp
  s4 : Tmp
  ts : Array TypeId
def Itc.ops (i : Itc) : Array Oper := (i.l4 ++ [i.o4, i.o5]).toArray
def Itc.body (i : Itc) : Code := .seq (.seq i.ra (.cond (.tmp i.c7) .skip (.exit i.ix))) (.block i.ib (.seq i.rb (.seq i.lp (.seq (.seq (.region i.id4 i.ops false) (.cond (.tmp i.c31) .ret .skip)) i.rc))))
def SL (yv : Value) (tm : Tm) : Prop := get tm 0 = .val yv ∧ get tm 1 = .adr 0 0 ∧ get tm 2 = .adr 1 0
abbrev Rg.yv (g : Rg) : Value := .func (.yield g.lr) #[] #[]
/-- The first ones that are alike; what is behind them. -/
def hd {α : Type} (c : α → α → Int) (x : α) (r : List α) : List α := x :: r.takeWhile fun y => c x y == 0
def tl {α : Type} (c : α → α → Int) (x : α) (r : List α) : List α := r.dropWhile fun y => c x y == 0
theorem tl_len {α : Type} (c : α → α → Int) (x : α) (r : List α) : (tl c x r).length ≤ r.length := by
  have := congrArg List.length (List.takeWhile_append_dropWhile (p := fun y => c x y == 0) (l := r))
  rw [List.length_append] at this
  unfold tl; omega
def nope : Value → Tm → Mem → Prop := fun _ _ _ => False
structure Itc.Ok (i : Itc) (P : Program) (lent : FuncId → Bool) (live : Nat → List Nat) (tr : Nat → Option (Tr × List Nat)) {α : Type} (enc : α → List PV) (c : α → α → Int) (cmp : FuncId) : Prop where
  okA : okCode i.N (fun _ => true) tr i.ra = true
  okB : okCode i.N (fun _ => true) tr i.rb = true
  okL : okCode i.N (fun _ => true) tr i.lp = true
  okC : okCode i.N (fun _ => true) tr i.rc = true
  ok4 : okOps i.N i.l4 = true
  ok5 : okOps i.N [i.o5] = true
  o4op : i.o4.op = .call { callee := .value (.tmp i.ty), args := #[.tmp i.ta], argTypes := i.ts }
  o4g : i.o4.guard = none
  o4d : i.o4.dst = some i.tr
  s4N : 4 < i.N
  trN : i.tr < i.N
  s4tr : i.s4 ≠ i.tr ∧ i.tr ≠ 0 ∧ i.tr ≠ 1 ∧ i.tr ≠ 2 ∧ i.s4 ≠ 0 ∧ i.s4 ≠ 1 ∧ i.s4 ≠ 2
  s1 : ∀ yv tm r, SL yv tm → execC P 0 lent 2 live tr i.ra (onlyN fun tm m => SL yv tm ∧ m = mI cmp (List.map enc r) ∧ get tm i.c7 = .val (.bool (!r.isEmpty))) tm (mI cmp (List.map enc r))
  s2 : ∀ yv tm x r, SL yv tm → (x :: r).length ≤ 1000000000 → execC P 0 lent 2 live tr i.rb (onlyN fun tm m => execC P 0 lent 2 live tr i.lp (onlyN fun tm m => execOps P 0 lent nope i.ops (fun tm m => SL yv tm ∧ m = mI cmp (List.map enc (x :: r)) ∧ get tm i.s4 = .val (.int .i64 ((hd c x r).length : Nat)) ∧ get tm i.ty = .val yv ∧ get tm i.ta = .sl ((hd c x r).map enc)) i.l4 tm m) tm m) tm (mI cmp (List.map enc (x :: r)))
  s3 : ∀ yv tm x r b, SL yv tm → (x :: r).length ≤ 1000000000 → get tm i.s4 = .val (.int .i64 ((hd c x r).length : Nat)) → get tm i.tr = .val (.bool b) → execOps P 0 lent nope i.ops (fun tm m => SL yv tm ∧ m = mI cmp (List.map enc (x :: r)) ∧ get tm i.c31 = .val (.bool !b) ∧ (b = true → execC P 0 lent 2 live tr i.rc (onlyN fun tm m => SL yv tm ∧ m = mI cmp (List.map enc (tl c x r))) tm m)) [i.o5] tm (mI cmp (List.map enc (x :: r)))
/-- How the iterator's loop is left. -/
def QI (i : Itc) (g : Rg) (Y Z : Mem → Prop) : Exit → Act → World → Prop
  | .exit j, a, W => j = i.ix ∧ a.defers = [] ∧ ∃ m ρ, Y m ∧ Cal g m ρ W ∧ W.heap[g.lr]? = some (.loop (g.lp .ready none))
  | .ret, a, W => a.defers = [] ∧ ∃ m ρ, Z m ∧ Cal g m ρ W ∧ W.heap[g.lr]? = some (.loop (g.lp .done (some .ret)))
  | _, _, _ => False
theorem onlyN_back {c : Cx} {k : Tm → Mem → Prop} {e : Exit} {a : Act} {w : World} (h : Post c (onlyN k) e a w) : e = .normal ∧ Then c k a w := by
  cases e with
  | exit id => obtain ⟨_, _, _, h1, _⟩ := h; exact h1.elim
  | ret => obtain ⟨_, _, _, h1, _⟩ := h; exact h1.elim
  | goto l => exact h.elim
  | outgrown => exact h.elim
  | panic ch => obtain ⟨v, _, _, _, _, h1, _⟩ := h; exact h1.elim
  | normal => exact ⟨rfl, h⟩
/-- A piece of code, told by V, in a plain frame. -/
theorem piece {c : Cx} (hP : c.P.follows .mixedOrders = true) {n : Nat} {lent : FuncId → Bool} {live : Nat → List Nat} {tr : Nat → Option (Tr × List Nat)} {co : Code} {k : Tm → Mem → Prop} {tm : Tm} {m : Mem} {ρ : Nat → Value} {a : Act} {w : World} {Q : Exit → Act → World → Prop}
    (hN : okCode c.N c.kd tr co = true) (hs : execC c.P c.np lent c.n live tr co (onlyN k) tm m) (h : Inv c tm m ρ a w) (hQ : ∀ a w, Then c k a w → Q .normal a w) : co.wpIn Fence.wide n c.P Q a w :=
  wpIn_wide.2 (wp_mono (execC_sound hP onlyN_pan hN hs h) fun e a w hq => by
    obtain ⟨rfl, hq⟩ := onlyN_back hq
    exact hQ a w hq)
theorem iter_ok {α : Type} {g : Rg} (hm : g.P.follows .mixedOrders = true) (hg : g.Ok) {i : Itc} {lentI : FuncId → Bool} {liveI : Nat → List Nat} {trI : Nat → Option (Tr × List Nat)} {enc : α → List PV} {c : α → α → Int} {cmp : FuncId} (hi : i.Ok g.P lentI liveI trI enc c cmp)
    {lent : FuncId → Bool} {live : Nat → List Nat} {tr : Nat → Option (Tr × List Nat)} (hA : okCode g.tmps.size (fun _ => true) tr g.as = true) (hA2 : ndCode g.as = true) (hB : okCode g.tmps.size (fun _ => true) tr g.bd = true) (hB2 : ndCode g.bd = true) {X : List α → Mem → Prop} {Z : Mem → Prop}
    (HR : ∀ x r m, X (x :: r) m → execC g.P 0 lent m.length live tr g.as (onlyN fun t' m' => m' = m ∧ nocT t' = true ∧ execC g.P 0 lent m.length live tr g.bd (KR g.tm (X (tl c x r)) Z) t' m') (put g.tm (some g.p) (.sl ((hd c x r).map enc))) m) :
    ∀ (r : List α), r.length ≤ 1000000000 → (∀ x r', r = x :: r' → ∀ (m : Mem) (ρ : Nat → Value) (W : World) (a : Act) (tm : Tm), X (tl c x r') m → Cal g m ρ W → W.heap[g.lr]? = some (.loop (g.lp .ready none)) → It g cmp ((tl c x r').map enc) m ρ W → a.tmps.size = i.N → a.defers = [] → SL g.yv tm → (∀ t, slI g (get tm t) (a.tmps.getD t undef)) →
      LoopAt g.P i.body (QI i g (X []) Z) a W) → ∀ (m : Mem) (ρ : Nat → Value) (W : World) (a : Act) (tm : Tm), X r m → Cal g m ρ W → W.heap[g.lr]? = some (.loop (g.lp .ready none)) → It g cmp (r.map enc) m ρ W → a.tmps.size = i.N → a.defers = [] → SL g.yv tm → (∀ t, slI g (get tm t) (a.tmps.getD t undef)) →
      LoopAt g.P i.body (QI i g (X []) Z) a W := by
  intro r hlen ih m ρ W a tm hX hc hl hit hN hD hSL ht
  have hlrM : g.MB g.lr := .inl hg.lr
  have nb : ∀ {W W' : World}, Cal g m ρ W → Fr (fun k => k = g.b1 ∨ k = g.b2) W W' → W.heap[g.lr]? = some (.loop (g.lp .ready none)) → W'.heap[g.lr]? = some (.loop (g.lp .ready none)) := fun hc hf hl => (hf.block _ (hc.lt _ hlrM) fun hh => hh.elim (fun e => hg.n1 (e ▸ hg.lr)) fun e => hg.n2 (e ▸ hg.lr)).trans hl
  have h0 := it_inv hg hc hit ht
  refine LoopAt.mk (n := 1) (Go.wpIn_seq (Go.wpIn_seq (piece hm (by show okCode a.tmps.size _ _ _ = true; rw [hN]; exact hi.okA) (hi.s1 g.yv tm r hSL) h0 fun a1 W1 hq => ?_)))
  obtain ⟨t1, m1, ρ1, ⟨hs1, rfl, hc7⟩, h1⟩ := hq
  obtain ⟨hc1, hit1, hf1, _, _, hx1, _⟩ := it_back hg hc h1
  refine Go.wpIn_cond (t := !r.isEmpty) (hx1 i.c7 _ hc7) ?_
  cases r with
  | nil =>
    refine Go.wpIn_exit ?_
    exact ⟨rfl, h1.df.trans hD, m, ρ, hX, hc1, nb hc hf1 hl⟩
  | cons x r =>
    refine Go.wpIn_skip (Go.wpIn_block (Go.wpIn_seq (piece hm (by show okCode a.tmps.size _ _ _ = true; rw [hN]; exact hi.okB) (hi.s2 g.yv t1 x r hs1 hlen) h1 fun a2 W2 hq => ?_)))
    obtain ⟨t2, m2, ρ2, hs2, h2⟩ := hq
    refine Go.wpIn_seq (piece hm (by show okCode a.tmps.size _ _ _ = true; rw [hN]; exact hi.okL) hs2 h2 fun a3 W3 hq => ?_)
    obtain ⟨t3, m3, ρ3, hs3, h3⟩ := hq
    refine Go.wpIn_seq (Go.wpIn_seq (wpIn_region_list ?_))
    rw [show i.ops.toList = i.l4 ++ [i.o4, i.o5] by simp [Itc.ops]]
    refine list_wide (Q' := fun e a w => match e with | .normal => Then _ _ a w | _ => False) (fun _ _ _ h => h) (fun ⟨_, _, h⟩ => h) ?_ _ _ _ (execOps_sound (c := ⟨g.P, g.MI m ρ, W, Own (mI cmp (List.map enc (x :: r))) (ρI g), a.tmps.size, 2, 0, mI cmp (List.map enc (x :: r)), ρI g, a.defers, fun _ => true⟩) (kp := nope) (fun v a w ⟨_, _, _, h, _⟩ => h) (fun a w h => h) i.l4 t3 m3 ρ3 a3 W3 (by show okOps a.tmps.size _ = true; rw [hN]; exact hi.ok4) hs3 h3)
    rintro a4 W4 ⟨t4, m4, ρ4, ⟨hs4, rfl, hn4, hty, hta⟩, h4⟩
    obtain ⟨hc4, hit4, hf4, e1, e2, hx4, him4⟩ := it_back hg hc h4
    have hl4 := nb hc hf4 hl
    have hy : (Instr.yield g.lr #[a4.tmps.getD i.ta undef]).run g.P W4 = .ok (.round g.lr g.fn (g.tmps.setIfInBounds g.p (a4.tmps.getD i.ta undef)) g.as g.bd) W4 := by
      rw [run_yield hl4 rfl]; simp [Rg.lp]
    have hrun := yield_run (P := g.P) hi.o4op (hx4 _ _ hty) hy
    rw [wpListIn, if_pos (by simp [Region.wanted, hi.o4g])]
    refine ⟨fun _ _ => trivial, ?_⟩
    rw [show Fence.wide.round = none from rfl, Oper.semAt_none, hrun, Oper.uponIn_round]
    refine ⟨fun h => (by cases h), RoundIn.mono (round_ok hm hg hA hA2 hB hB2 hc4 hl4 (him4 _ _ hta) (HR x r m hX)) ?_⟩
    rintro e W5 ⟨m5, ρ5, hc5, hf5, hO5, hcase⟩
    have hit5 := hit4.move hg hc4 hf5 hO5
    have hsz4 : a4.tmps.size = i.N := h4.sz.trans hN
    have hd4 : a4.defers = [] := h4.df.trans hD
    have hsl : ∀ b : Bool, ∀ t, slI g (get [(0, .val g.yv), (1, .adr 0 0), (2, .adr 1 0), (i.s4, .val (.int .i64 ((hd c x r).length : Nat))), (i.tr, .val (.bool b))] t) ((a4.put (some i.tr) (.bool b)).tmps.getD t undef) := fun b t => by
      have q := hi.s4tr
      rw [getD_put _ _ _ _ (by rw [hsz4]; exact hi.trN)]
      simp only [get]
      split
      · rename_i e; subst e; rw [if_neg (fun e => q.2.1 e)]; exact .inr (.inr (.inr ⟨by rw [hx4 0 _ hs4.1], by rw [hx4 0 _ hs4.1]; rfl⟩))
      · split
        · rename_i e; subst e; rw [if_neg (fun e => q.2.2.1 e)]; exact .inr (.inl ⟨rfl, e1 hs4.2.1⟩)
        · split
          · rename_i e; subst e; rw [if_neg (fun e => q.2.2.2.1 e)]; exact .inr (.inr (.inl ⟨rfl, e2 hs4.2.2⟩))
          · split
            · rename_i e; subst e; rw [if_neg (fun e => q.1 e.symm), hx4 _ _ hn4]; exact .inr (.inr (.inr ⟨rfl, okB_nat _ (by have := congrArg List.length (List.takeWhile_append_dropWhile (p := fun y => c x y == 0) (l := r)); rw [List.length_append] at this; simp only [List.length_cons] at hlen; simp only [hd, List.length_cons]; omega)⟩))
            · split
              · rename_i e; subst e; exact .inr (.inr (.inr ⟨rfl, rfl⟩))
              · exact .inl rfl
    have hg5 : ∀ b : Bool, get [(0, .val g.yv), (1, .adr 0 0), (2, .adr 1 0), (i.s4, .val (.int .i64 ((hd c x r).length : Nat))), (i.tr, .val (.bool b))] i.s4 = .val (.int .i64 ((hd c x r).length : Nat)) ∧ get [(0, .val g.yv), (1, .adr 0 0), (2, .adr 1 0), (i.s4, .val (.int .i64 ((hd c x r).length : Nat))), (i.tr, .val (.bool b))] i.tr = .val (.bool b) := fun b => by
      obtain ⟨q1, q2, q3, q4, q5, q6, q7⟩ := hi.s4tr
      constructor
      · simp only [get]; rw [if_neg (Ne.symm q5), if_neg (Ne.symm q6), if_neg (Ne.symm q7), if_pos trivial]
      · simp only [get]; rw [if_neg (Ne.symm q2), if_neg (Ne.symm q3), if_neg (Ne.symm q4), if_neg q1, if_pos trivial]
    have hsz5 : ∀ b : Bool, (a4.put (some i.tr) (.bool b)).tmps.size = i.N := fun b => by simp [Act.put, hsz4]
    have rest : ∀ (b : Bool) (Q : Exit → Act → World → Prop), (∀ a6 W6, Cal g m5 ρ5 W6 → W6.heap[g.lr]? = W5.heap[g.lr]? → a6.defers = [] → a6.eval (.tmp i.c31) = .bool (!b) → (b = true → i.rc.wpIn Fence.wide 1 g.P (fun e a7 W7 => e = .normal ∧ Cal g m5 ρ5 W7 ∧ W7.heap[g.lr]? = W5.heap[g.lr]? ∧ It g cmp (List.map enc (tl c x r)) m5 ρ5 W7 ∧ a7.tmps.size = i.N ∧ a7.defers = [] ∧ ∀ t, slI g (get [(0, .val g.yv), (1, .adr 0 0), (2, .adr 1 0)] t) (a7.tmps.getD t undef)) a6 W6) → Q .normal a6 W6) → wpListIn Fence.wide 1 g.P i.ops Q [i.o5] (a4.put (some i.tr) (.bool b)) W5 := by
      intro b Q hQ
      have h5 := it_inv hg hc5 hit5 (hsl b)
      refine list_wide (rest := []) (Q' := fun e a w => match e with | .normal => Then _ _ a w | _ => False) (fun _ _ _ h => h) (fun ⟨_, _, h⟩ => h) ?_ [i.o5] _ _ (execOps_sound (c := ⟨g.P, g.MI m5 ρ5, W5, Own (mI cmp (List.map enc (x :: r))) (ρI g), (a4.put (some i.tr) (.bool b)).tmps.size, 2, 0, mI cmp (List.map enc (x :: r)), ρI g, (a4.put (some i.tr) (.bool b)).defers, fun _ => true⟩) (kp := nope) (fun v a w ⟨_, _, _, h, _⟩ => h) (fun a w h => h) [i.o5] _ _ _ _ _ (by show okOps (a4.put (some i.tr) (.bool b)).tmps.size _ = true; rw [hsz5]; exact hi.ok5) (hi.s3 g.yv _ x r b ⟨rfl, rfl, rfl⟩ hlen (hg5 b).1 (hg5 b).2) h5)
      rintro a6 W6 ⟨t6, m6, ρ6, ⟨hs6, rfl, hc31, hrc⟩, h6⟩
      obtain ⟨hc6, _, hf6, _, _, hx6, _⟩ := it_back hg hc5 h6
      have nb5 : ∀ {W W' : World}, Cal g m5 ρ5 W → Fr (fun k => k = g.b1 ∨ k = g.b2) W W' → W'.heap[g.lr]? = W.heap[g.lr]? := fun hc hf => hf.block _ (hc.lt _ hlrM) fun hh => hh.elim (fun e => hg.n1 (e ▸ hg.lr)) fun e => hg.n2 (e ▸ hg.lr)
      refine hQ a6 W6 hc6 (nb5 hc5 hf6) (h6.df.trans hd4) (hx6 i.c31 _ hc31) fun hb => ?_
      refine piece hm (by show okCode (a4.put (some i.tr) (.bool b)).tmps.size _ _ _ = true; rw [hsz5]; exact hi.okC) (hrc hb) h6 fun a7 W7 hq => ?_
      obtain ⟨t7, m7, ρ7, ⟨hs7, rfl⟩, h7⟩ := hq
      obtain ⟨hc7, hit7, hf7, e71, e72, hx7, _⟩ := it_back hg hc5 h7
      refine ⟨rfl, hc7, nb5 hc5 hf7, hit7, h7.sz.trans (hsz5 b), h7.df.trans hd4, fun t => ?_⟩
      simp only [get]
      split
      · rename_i e; subst e; exact .inr (.inr (.inr ⟨by rw [hx7 0 _ hs7.1], by rw [hx7 0 _ hs7.1]; rfl⟩))
      · split
        · rename_i e; subst e; exact .inr (.inl ⟨rfl, e71 hs7.2.1⟩)
        · split
          · rename_i e; subst e; exact .inr (.inr (.inl ⟨rfl, e72 hs7.2.2⟩))
          · exact .inl rfl
    rcases hcase with ⟨rfl, hX5, hl5⟩ | ⟨rfl, hZ5, hl5⟩
    · show wpListIn Fence.wide 1 g.P i.ops _ [i.o5] (a4.put i.o4.dst (.bool true)) W5
      rw [hi.o4d]
      refine rest true _ fun a6 W6 hc6 hl6 hd6 hv6 hrc => ?_
      refine Go.wpIn_cond hv6 (Go.wpIn_skip ?_)
      refine Go.wpIn_mono (hrc rfl) ?_
      rintro e a7 W7 ⟨rfl, hc7, hl7, hit7, hsz7, hd7, hsl7⟩
      exact ih x r rfl m5 ρ5 W7 a7 _ hX5 hc7 (hl7.trans hl5) hit7 hsz7 hd7 ⟨rfl, rfl, rfl⟩ hsl7
    · show wpListIn Fence.wide 1 g.P i.ops _ [i.o5] (a4.put i.o4.dst (.bool false)) W5
      rw [hi.o4d]
      refine rest false _ fun a6 W6 hc6 hl6 hd6 hv6 hrc => ?_
      refine Go.wpIn_cond hv6 (Go.wpIn_ret ?_)
      exact ⟨hd6, m5, ρ5, hZ5, hc6, hl6.trans hl5⟩
theorem iter_all {α : Type} {g : Rg} (hm : g.P.follows .mixedOrders = true) (hg : g.Ok) {i : Itc} {lentI : FuncId → Bool} {liveI : Nat → List Nat} {trI : Nat → Option (Tr × List Nat)} {enc : α → List PV} {c : α → α → Int} {cmp : FuncId} (hi : i.Ok g.P lentI liveI trI enc c cmp)
    {lent : FuncId → Bool} {live : Nat → List Nat} {tr : Nat → Option (Tr × List Nat)} (hA : okCode g.tmps.size (fun _ => true) tr g.as = true) (hA2 : ndCode g.as = true) (hB : okCode g.tmps.size (fun _ => true) tr g.bd = true) (hB2 : ndCode g.bd = true) {X : List α → Mem → Prop} {Z : Mem → Prop}
    (HR : ∀ x r m, X (x :: r) m → execC g.P 0 lent m.length live tr g.as (onlyN fun t' m' => m' = m ∧ nocT t' = true ∧ execC g.P 0 lent m.length live tr g.bd (KR g.tm (X (tl c x r)) Z) t' m') (put g.tm (some g.p) (.sl ((hd c x r).map enc))) m) :
    ∀ (k : Nat) (r : List α), r.length ≤ k → r.length ≤ 1000000000 → ∀ (m : Mem) (ρ : Nat → Value) (W : World) (a : Act) (tm : Tm), X r m → Cal g m ρ W → W.heap[g.lr]? = some (.loop (g.lp .ready none)) → It g cmp (r.map enc) m ρ W → a.tmps.size = i.N → a.defers = [] → SL g.yv tm → (∀ t, slI g (get tm t) (a.tmps.getD t undef)) →
      LoopAt g.P i.body (QI i g (X []) Z) a W
  | 0, r, hk, hlen => iter_ok hm hg hi hA hA2 hB hB2 HR r hlen fun x r' e => by subst e; simp at hk
  | k + 1, r, hk, hlen => iter_ok hm hg hi hA hA2 hB hB2 HR r hlen fun x r' e => iter_all hm hg hi hA hA2 hB hB2 HR k (tl c x r') (by subst e; have := tl_len c x r'; simp at hk; omega) (by subst e; have := tl_len c x r'; simp at hlen; omega)
end Go.V
set_option linter.unusedVariables false
set_option linter.unusedSimpArgs false
namespace Go.V
open Go
section
variable {c : Cx} {P : Program} {M M' : Nat → Prop} {w0 w w' : World} {S : Nat → Prop} {tm : Tm} {m m' : Mem} {ρ ρ' : Nat → Value} {a : Act}
/-! where a block that holds no cells is turned; where less is others' -/
theorem Im.cells {N : Nat → Prop} {p : PV} {v : Value} (h : Im w N p v) (hc : ∀ A u, w.cell? A = some u → w'.cell? A = some u) : Im w' N p v := by
  induction h with
  | val h => exact .val h
  | any => exact .any
  | sl u hn hx hcc hs hA hr ih =>
    refine .sl u hn hx hcc hs ?_ ih
    rcases hA with h | ⟨ad, rfl, h⟩
    · exact .inl h
    · exact .inr ⟨ad, rfl, fun i j e p he hp => ⟨hc _ _ (h i j e p he hp).1, (h i j e p he hp).2⟩⟩
  | agg hl _ h1 ih => exact .agg hl ih h1
  | tup hl _ ih => exact .tup hl ih
  | fn hl _ ih => exact .fn hl ih
theorem Rep.cells {p : PV} {v : Value} (h : Rep M w m ρ p v) (hc : ∀ A u, w.cell? A = some u → w'.cell? A = some u) (hM : ∀ k, M' k → M k) : Rep M' w' m ρ p v := by
  have hN : ∀ k, Mine M' m ρ k → Mine M m ρ k := fun k hk => hk.imp (hM k) id
  induction h with
  | im h => exact .im ((h.cells hc).sub hN)
  | own h => exact .own h
  | osl0 h1 h2 h3 => exact .osl0 h1 h2 h3
  | osl h1 h2 h3 h4 h5 h6 h7 h8 => exact .osl h1 h2 h3 h4 h5 h6 h7 h8
  | adr h1 h2 => exact .adr h1 h2
  | ead h1 h2 h3 h4 => exact .ead h1 h2 h3 h4
  | cad u h1 h2 => exact .cad u (fun j p hp => ⟨hc _ _ (h1 j p hp).1, (h1 j p hp).2⟩) (fun j p hp => ((h2 j p hp).cells hc).sub hN)
  | agg hl _ h1 ih => exact .agg hl ih h1
  | tup hl _ ih => exact .tup hl ih
  | fn hl _ ih => exact .fn hl ih
theorem cell_of_block (hb : ∀ (k : Nat) vs te x, w.heap[k]? = some (.cells vs te x) → w'.heap[k]? = some (.cells vs te x)) : ∀ A u, w.cell? A = some u → w'.cell? A = some u := by
  intro A u h
  have h2 := h
  unfold World.cell? at h
  cases ho : w.heap[A.block]? with
  | none => simp [ho] at h
  | some o =>
    cases o <;> first | (simp [ho] at h; done) | skip
    rename_i vs te x
    have := hb A.block vs te x ho
    unfold World.cell?
    rw [this]
    simpa [ho] using h
theorem MemOk.cells (h : MemOk P M w m ρ) (hb : ∀ (k : Nat) vs te x, w.heap[k]? = some (.cells vs te x) → w'.heap[k]? = some (.cells vs te x)) (hM : ∀ k, M' k → M k) : MemOk P M' w' m ρ := by
  have hc := cell_of_block hb
  refine ⟨fun b x hx => ?_, h.sep, fun b k hl hk hh => h.out b k hl hk (hM k hh)⟩
  have h0 := h.blk b x hx
  generalize ρ b = v at h0
  cases h0 with
  | dead => exact .dead
  | var hg hl hj h1 => exact .var (hb _ _ _ _ hg) hl (fun j p v hp hv' => (hj j p v hp hv').cells hc hM) h1
  | row hi hz hzs h0 hby hlen ho hss hf hxx h1 =>
    refine .row hi hz hzs h0 hby hlen ⟨ho.1, ?_⟩ hss hf (fun q j x p hq hj => let ⟨u, h2, h3⟩ := hxx q j x p hq hj; ⟨u, h2, (h3.cells hc).sub fun k hk => hk.imp (hM k) id⟩) h1
    rcases ho.2 with hn | ⟨g, cap, cur, rfl, h0, hg, rest⟩
    · exact .inl hn
    · exact .inr ⟨g, cap, cur, rfl, h0, hb _ _ _ _ hg, rest⟩
end
def seqs : List Code → Code → Code
  | [], c => c
  | a :: l, c => .seq a (seqs l c)
def chainC (P : Program) (lent : FuncId → Bool) (live : Nat → List Nat) (tr : Nat → Option (Tr × List Nat)) : List Code → (Tm → Mem → Prop) → Tm → Mem → Prop
  | [], k => k
  | a :: l, k => execC P 0 lent 0 live tr a (onlyN (chainC P lent live tr l k))
theorem chain_wp {c : Cx} (hm : c.P.follows .mixedOrders = true) (hn : c.n = 0) (hnp : c.np = 0) {lent : FuncId → Bool} {live : Nat → List Nat} {tr : Nat → Option (Tr × List Nat)} {k : Tm → Mem → Prop} {C : Code} {Q : Exit → Act → World → Prop} {n : Nat} (hC : ∀ a w, Then c k a w → C.wpIn Fence.wide n c.P Q a w) :
    ∀ (As : List Code), As.all (okCode c.N c.kd tr) = true → ∀ (tm : Tm) (m : Mem) (ρ : Nat → Value) (a : Act) (w : World), chainC c.P lent live tr As k tm m → Inv c tm m ρ a w → (seqs As C).wpIn Fence.wide n c.P Q a w
  | [], _, tm, m, ρ, a, w, hs, h => hC a w ⟨tm, m, ρ, hs, h⟩
  | A :: As, hok, tm, m, ρ, a, w, hs, h => by
    rw [List.all_cons, Bool.and_eq_true] at hok
    rw [chainC] at hs
    refine Go.wpIn_seq (piece hm hok.1 (by rw [hn, hnp]; exact hs) h fun a w hq => ?_)
    obtain ⟨tm, m, ρ, hs, h⟩ := hq
    exact chain_wp hm hn hnp hC As hok.2 tm m ρ a w hs h
/-- What is told where the range begins. -/
structure RangeAt (gt : Tmp) (fi cmp : FuncId) (es : List (List PV)) (i1 i2 : Nat) (lv : List Nat) (tmR : Tm) (X0 : Mem → Prop) (tm : Tm) (m : Mem) : Prop where
  g : get tm gt = .fn fi [.adr i1 0, .adr i2 0]
  ne : i1 ≠ i2
  m1 : m[i1]? = some (.var [.sl es])
  m2 : m[i2]? = some (.var [.fn cmp []])
  o1 : (reach 0 m (vals (keep tm lv))).contains i1 = false
  o2 : (reach 0 m (vals (keep tm lv))).contains i2 = false
  r : renT (pos 0 (reach 0 m (vals (keep tm lv)))) false (keep tm lv) = tmR
  noc : nocM (canonM 0 m (reach 0 m (vals (keep tm lv))) false) = true
  x : X0 (canonM 0 m (reach 0 m (vals (keep tm lv))) false)
theorem Inv.adr_val {c : Cx} {tm : Tm} {m : Mem} {ρ : Nat → Value} {a : Act} {w : World} (h : Inv c tm m ρ a w) {b : Nat} {cs : List PV} (hm : m[b]? = some (.var cs)) : ∃ g, ρ b = .pointer (some ⟨g, 0, none⟩) ∧ g < w.heap.size := by
  have := h.blk b _ hm
  generalize ρ b = v at this
  cases this with
  | var hg => exact ⟨_, rfl, (Array.getElem?_eq_some_iff.1 hg).1⟩
/-- The state at the range's first round. -/
theorem range_start {c : Cx} (hS : ∀ k, ¬ c.S k) {tm : Tm} {m : Mem} {ρ : Nat → Value} {a : Act} {w : World} (h : Inv c tm m ρ a w) {gt : Tmp} {fi cmp : FuncId} {es : List (List PV)} {i1 i2 : Nat} {lv : List Nat} {tmR : Tm} {X0 : Mem → Prop} (hr : RangeAt gt fi cmp es i1 i2 lv tmR X0 tm m) (hsl : slotsOk tmR = true) (fn : FuncId) (p : Tmp) (hp : p < a.tmps.size) (as bd : Code) :
    ∃ b1 b2, a.eval (.tmp gt) = .func (.func fi) #[] #[.pointer (some ⟨b1, 0, none⟩), .pointer (some ⟨b2, 0, none⟩)] ∧
      ∀ (g : Rg), g = ⟨c.P, c.w0, c.S, fun k => c.M k ∨ k = w.heap.size + 1 ∨ k = w.heap.size, b1, b2, w.heap.size + 1, w.heap.size, a.tmps, tmR, fn, p, as, bd⟩ →
        g.Ok ∧ ∃ m1 ρ1, X0 m1 ∧ Cal g m1 ρ1 ((w.alloc (.deferred (some []))).alloc (.loop (g.lp .ready none))) ∧ It g cmp es m1 ρ1 ((w.alloc (.deferred (some []))).alloc (.loop (g.lp .ready none))) ∧ ((w.alloc (.deferred (some []))).alloc (.loop (g.lp .ready none))).heap[g.lr]? = some (.loop (g.lp .ready none)) := by
  obtain ⟨b1, p1, l1⟩ := h.adr_val hr.m1
  obtain ⟨b2, p2, l2⟩ := h.adr_val hr.m2
  have v1 : Live m i1 := ⟨_, hr.m1, by simp⟩
  have v2 : Live m i2 := ⟨_, hr.m2, by simp⟩
  have w1 : own1 (ρ i1) = some b1 := by rw [p1]; rfl
  have w2 : own1 (ρ i2) = some b2 := by rw [p2]; rfl
  have hne : b1 ≠ b2 := fun e => hr.ne (h.sep i1 i2 b1 v1 v2 w1 (e ▸ w2))
  refine ⟨b1, b2, ?_, ?_⟩
  · have hg := h.ev (.tmp gt)
    rw [show ev tm (.tmp gt) = get tm gt from rfl, hr.g] at hg
    generalize a.eval (.tmp gt) = v at hg
    cases hg with
    | im hh => cases hh with
      | fn hl hx =>
        rename_i vs
        obtain ⟨l⟩ := vs
        match l, hl with
        | [x, y], _ => cases hx 0 _ x rfl rfl
    | fn hl hx =>
      rename_i vs
      obtain ⟨l⟩ := vs
      match l, hl with
      | [x, y], _ =>
        have h1 := hx 0 _ x rfl rfl
        have h2 := hx 1 _ y rfl rfl
        cases h1 with
        | im hh => cases hh
        | adr _ e1 =>
          cases h2 with
          | im hh => cases hh
          | adr _ e2 =>
            rw [p1] at e1; rw [p2] at e2
            simp at e1 e2
            rw [e1, e2]
  · rintro g rfl
    obtain ⟨r1, r2⟩ := reach_spec 0 m (vals (V.keep tm lv))
    obtain ⟨q1, q2, q3⟩ := MemOk.canon h.mem r1 (fun b => b = i1 ∨ b = i2) (fun b hb => by
      rcases hb with rfl | rfl
      · exact ⟨v1, fun hh => by have := hr.o1; rw [List.contains_iff_mem.2 hh] at this; cases this⟩
      · exact ⟨v2, fun hh => by have := hr.o2; rw [List.contains_iff_mem.2 hh] at this; cases this⟩)
    generalize hm1 : canonM 0 m (reach 0 m (vals (V.keep tm lv))) false = m1 at q1 q2 q3
    generalize hρ1 : (fun d => ρ (orig 0 (reach 0 m (vals (V.keep tm lv))) d)) = ρ1 at q1 q2 q3
    have hrx := hr.x
    have hrn := hr.noc
    rw [hm1] at hrx hrn
    generalize hg : (⟨c.P, c.w0, c.S, fun k => c.M k ∨ k = w.heap.size + 1 ∨ k = w.heap.size, b1, b2, w.heap.size + 1, w.heap.size, a.tmps, tmR, fn, p, as, bd⟩ : Rg) = g
    have eMB : ∀ k, g.MB k ↔ (c.M k ∨ k = w.heap.size + 1 ∨ k = w.heap.size) ∨ k = b1 ∨ k = b2 := fun k => by rw [← hg]; exact Iff.rfl
    have hcM : ∀ k, c.M k → k < w.heap.size := fun k hk => Nat.lt_of_lt_of_le (h.old k hk) h.fr.size
    have f1 : c.w0.heap.size ≤ b1 := (h.new i1 b1 v1 w1).resolve_right (hS _)
    have f2 : c.w0.heap.size ≤ b2 := (h.new i2 b2 v2 w2).resolve_right (hS _)
    have hlr : g.lr = w.heap.size + 1 := by rw [← hg]
    have hDD : g.D = w.heap.size := by rw [← hg]
    have hok : g.Ok := by
      rw [← hg]
      refine ⟨hne, ?_, ?_, .inr (.inl rfl), .inr (.inr rfl), by show w.heap.size + 1 ≠ w.heap.size; omega, f1, f2, by show c.w0.heap.size ≤ w.heap.size + 1; have := h.fr.size; omega, h.fr.size, hsl, hp⟩
      · rintro (hh | hh | hh)
        · exact h.out v1 w1 hh
        · have hh : b1 = w.heap.size + 1 := hh; omega
        · have hh : b1 = w.heap.size := hh; omega
      · rintro (hh | hh | hh)
        · exact h.out v2 w2 hh
        · have hh : b2 = w.heap.size + 1 := hh; omega
        · have hh : b2 = w.heap.size := hh; omega
    obtain ⟨W1, hW1⟩ : ∃ W1, (w.alloc (.deferred (some []))).alloc (.loop (g.lp .ready none)) = W1 := ⟨_, rfl⟩
    have hold : ∀ k, k < w.heap.size → W1.heap[k]? = w.heap[k]? := fun k hk => by
      rw [← hW1, heap_alloc_old _ _ k (by simp; omega)]; exact heap_alloc_old _ _ k hk
    have hsz : W1.heap.size = w.heap.size + 2 := by rw [← hW1]; simp
    have hDh : W1.heap[w.heap.size]? = some (.deferred (some [])) := by
      rw [← hW1, heap_alloc_old _ _ _ (by simp)]; exact World.alloc_heap_new w _
    have hlh : W1.heap[w.heap.size + 1]? = some (.loop (g.lp .ready none)) := by
      rw [← hW1]; have := World.alloc_heap_new (w.alloc (.deferred (some []))) (.loop (g.lp .ready none)); rwa [World.size_alloc] at this
    have hFr : Fr (fun _ => False) w W1 := ⟨by rw [← hW1]; rfl, by rw [← hW1]; rfl, by rw [← hW1]; rfl, by omega, fun k hk _ => hold k hk⟩
    rw [hW1]
    have hN : ∀ k, k < w.heap.size → Mine g.MB m1 ρ1 k → Mine (fun k => c.M k ∨ ∃ b, (b = i1 ∨ b = i2) ∧ own1 (ρ b) = some k) m1 ρ1 k := fun k hk hh => by
      rcases hh with hh | hh
      · rcases (eMB k).1 hh with (hh | hh | hh) | hh | hh
        · exact .inl (.inl hh)
        · omega
        · omega
        · exact .inl (.inr ⟨i1, .inl rfl, by rw [hh]; exact w1⟩)
        · exact .inl (.inr ⟨i2, .inr rfl, by rw [hh]; exact w2⟩)
      · exact .inr hh
    have hmv : Mv (Own m1 ρ1) w W1 := ⟨hFr.size, fun k hk _ => hold k hk⟩
    have hrr : ∀ b e es, m1[b]? = some (.row e es) → ρ1 b = ρ1 b ∧ ∃ e' es', m1[b]? = some (.row e' es') ∧ es'.length = es.length ∧ ∀ sz, (∀ x ∈ es, x.length = sz) → ∀ x ∈ es', x.length = sz := fun b e es hb => ⟨rfl, e, es, hb, rfl, fun _ h => h⟩
    have hvv : ∀ b cs, m1[b]? = some (.var cs) → ρ1 b = ρ1 b ∧ ∃ cs', m1[b]? = some (.var cs') := fun b cs hb => ⟨rfl, cs, hb⟩
    have hP : g.P = c.P := by rw [← hg]
    have hmem : MemOk g.P g.MB W1 m1 ρ1 := by
      rw [hP]
      refine ⟨fun b x hx => (q1.blk b x hx).move (fun k _ hk => hold k hk) hmv (fun _ _ h => h) hN hrr hvv, q1.sep, fun b k hb hk hh => ?_⟩
      have hlt := q1.lt hb hk
      rcases hN k hlt (.inl hh) with hh | _
      · exact q1.out b k hb hk hh
      · rcases (eMB k).1 hh with (hh | hh | hh) | hh | hh
        · exact q1.out b k hb hk (.inl hh)
        · omega
        · omega
        · exact q1.out b k hb hk (.inr ⟨i1, .inl rfl, by rw [hh]; exact w1⟩)
        · exact q1.out b k hb hk (.inr ⟨i2, .inr rfl, by rw [hh]; exact w2⟩)
    have htm : ∀ t, Rep g.MB W1 m1 ρ1 (get g.tm t) (g.tmps.getD t undef) := fun t => by
      rw [show g.tm = tmR by rw [← hg], show g.tmps = a.tmps by rw [← hg], ← hr.r, get_renT']
      exact (q2 _ _ ((h.keep lv).tm t)).move hmv (fun _ _ h => h) hN hrr hvv
    refine ⟨hok, m1, ρ1, hrx, ⟨hmem, hrn, htm, by rw [hDD]; exact hDh, ?_, fun b k hb hk => ?_, fun k hk => ?_⟩, ⟨?_, ?_⟩, by rw [hlr]; exact hlh⟩
    · rw [show g.S0 = c.S by rw [← hg], show g.w0 = c.w0 by rw [← hg]]
      exact h.fr.step hFr.os hFr.tape hFr.output hFr.size (fun k hk _ => hold k (Nat.lt_of_lt_of_le hk h.fr.size))
    · obtain ⟨b', hb', hk'⟩ := q3 k ⟨b, hb, hk⟩
      rw [show g.S0 = c.S by rw [← hg], show g.w0 = c.w0 by rw [← hg]]
      exact h.new b' k hb' hk'
    · rcases (eMB k).1 hk with (hh | hh | hh) | hh | hh
      · have := hcM k hh; omega
      · omega
      · omega
      · omega
      · omega
    · have hb := h.blk i1 _ hr.m1
      rw [p1] at hb
      cases hb with
      | var hg1 hl hj hone =>
        rename_i te vs
        obtain ⟨l⟩ := vs
        match l, hl with
        | [v], _ =>
          have hr := hj 0 _ v rfl rfl
          cases hr with
          | im him =>
            refine ⟨v, te, by rw [show g.b1 = b1 by rw [← hg], hold b1 l1]; exact hg1, hone v (by simp), him.move (⟨hFr.size, fun k hk _ => hold k hk⟩) fun k hk hh => ?_⟩
            rcases hN k hk hh with (hh | ⟨b, hb, hk⟩) | hh
            · exact .inl hh
            · rcases hb with rfl | rfl
              · exact .inr ⟨_, v1, hk⟩
              · exact .inr ⟨_, v2, hk⟩
            · exact .inr (q3 k hh)
    · have hb := h.blk i2 _ hr.m2
      rw [p2] at hb
      cases hb with
      | var hg1 hl hj hone =>
        rename_i te vs
        obtain ⟨l⟩ := vs
        match l, hl with
        | [v], _ =>
          have hr := hj 0 _ v rfl rfl
          have : v = .func (.func cmp) #[] #[] := by
            cases hr with
            | im him => cases him with
              | fn hl' _ => rw [Array.eq_empty_of_size_eq_zero hl'.symm]
            | fn hl' _ => rw [Array.eq_empty_of_size_eq_zero hl'.symm]
          subst this
          exact ⟨te, by rw [show g.b2 = b2 by rw [← hg], hold b2 l2]; exact hg1⟩
end Go.V
set_option linter.unusedVariables false
set_option linter.unusedSimpArgs false
namespace Go.V
open Go
section
variable {P : Program}
theorem okCode_all {n N : Nat} {kd : Nat → Bool} {tr : Nat → Option (Tr × List Nat)} (hn : n ≤ N) : ∀ As : List Code, As.all (okCode n kd tr) = true → As.all (okCode N kd tr) = true
  | [], _ => rfl
  | A :: As, h => by
    rw [List.all_cons, Bool.and_eq_true] at h ⊢
    exact ⟨okCode_mono hn A h.1, okCode_all hn As h.2⟩
/-- A function that ranges over the pieces of a row. -/
theorem does_range {α : Type} {f fi : FuncId} {fn ffn : Func} {As : List Code} {A7 C : Code} {ib2 : Nat} {gt p : Tmp} {as bd : Code} {args : List PV} {Q : PV → Mem → Prop} {i : Itc} {lentI : FuncId → Bool} {liveI : Nat → List Nat} {trI : Nat → Option (Tr × List Nat)} {enc : α → List PV} {c : α → α → Int} {cmp : FuncId}
    (hm : P.follows .mixedOrders = true) (hf : P.funcs[f]? = some fn) (hb : fn.body = some (seqs As (.seq (.seq A7 (.block ib2 (.rangeFunc (.tmp gt) #[p] as bd))) C))) (hname : (fn.name == "runtime.NumGoroutine") = false)
    (tr : Nat → Option (Tr × List Nat)) (lent : FuncId → Bool) (live : Nat → List Nat) (hAs : As.all (okCode fn.ntmps (fun _ => true) tr) = true) (hA7 : okCode fn.ntmps (fun _ => true) tr A7 = true) (hC : okCode fn.ntmps (fun _ => true) tr C = true)
    (has : okCode fn.ntmps (fun _ => true) tr as = true) (has2 : ndCode as = true) (hbd : okCode fn.ntmps (fun _ => true) tr bd = true) (hbd2 : ndCode bd = true) (hp : p < fn.ntmps)
    (hff : P.funcs[fi]? = some ffn) (hfb : ffn.body = some (.block i.ix (.loop i.body))) (hfr : ffn.results = #[]) (hiN : i.N = 3 + (ffn.ntmps - 3)) (heg : ∀ args w, (callFunc fi args).run P w = .ok (.enter fi args) w)
    (hi : i.Ok P lentI liveI trI enc c cmp) {X : List α → Mem → Prop} (tmR : Tm) (hsl : slotsOk tmR = true) {i1 i2 : Nat} {lv : List Nat}
    (HR : ∀ x r m, X (x :: r) m → execC P 0 lent m.length live tr as (onlyN fun t' m' => m' = m ∧ nocT t' = true ∧ execC P 0 lent m.length live tr bd (KR tmR (X (tl c x r)) fun m => resB P tmR m fn.results.toList fun ps => fin 0 m (oneB ps) Q) t' m') (put tmR (some p) (.sl ((hd c x r).map enc))) m)
    (HC : ∀ m, X [] m → execC P 0 lent 0 live tr C (done P 0 fn.results.toList Q) tmR m)
    (hs : chainC P lent live tr As (fun tm m => execC P 0 lent 0 live tr A7 (onlyN fun tm m => ∃ l : List α, l.length ≤ 1000000000 ∧ RangeAt gt fi cmp (l.map enc) i1 i2 lv tmR (X l) tm m) tm m) (number 0 args) []) : Does P f args [] 0 Q := by
  refine ⟨⟨fn, _, hf, hb, hname⟩, fun M w vs ρ hM hmem hlen hr => ?_⟩
  have h0 := Inv.start (P := P) (np := 0) (kd := fun _ => true) hM hmem hlen hr (fn.ntmps - vs.size)
  have hN : fn.ntmps ≤ vs.size + (fn.ntmps - vs.size) := by omega
  refine callsIn_wide.1 (callsIn_of_wp_marks (F := Fence.wide) (n := 2) hf hb trivial ?_)
  refine chain_wp (c := ⟨P, M, w, Own [] ρ, vs.size + (fn.ntmps - vs.size), 0, 0, [], ρ, [], fun _ => true⟩) hm rfl rfl (fun a w1 hq => ?_) As (okCode_all hN As hAs) _ _ _ _ _ hs h0
  obtain ⟨tm1, m1, ρ1, hs1, h1⟩ := hq
  refine Go.wpIn_seq (Go.wpIn_seq (piece (c := ⟨P, M, w, Own [] ρ, vs.size + (fn.ntmps - vs.size), 0, 0, [], ρ, [], fun _ => true⟩) hm (okCode_mono hN A7 hA7) hs1 h1 fun a2 w2 hq => ?_))
  obtain ⟨tm2, m2, ρ2, ⟨l, hl, hra⟩, h2⟩ := hq
  have hsz : a2.tmps.size = vs.size + (fn.ntmps - vs.size) := h2.sz
  have hdf : a2.defers = [] := h2.df
  refine Go.wpIn_block (wpIn_rangeFunc fun fn0 _ => ?_)
  obtain ⟨b1, b2, hev, hst⟩ := range_start (fun k => not_own_nil) h2 hra hsl fn0 p (Nat.lt_of_lt_of_le hp (by rw [hsz]; exact hN)) as bd
  obtain ⟨hg, m3, ρ3, hX, hcal, hit, hlr⟩ := hst _ rfl
  generalize hgg : (⟨P, w, Own [] ρ, fun k => M k ∨ k = w2.heap.size + 1 ∨ k = w2.heap.size, b1, b2, w2.heap.size + 1, w2.heap.size, a2.tmps, tmR, fn0, p, as, bd⟩ : Rg) = g at hg hcal hit hlr
  have gP : g.P = P := by rw [← hgg]
  have gas : g.as = as := by rw [← hgg]
  have gbd : g.bd = bd := by rw [← hgg]
  have gtm : g.tm = tmR := by rw [← hgg]
  have gp : g.p = p := by rw [← hgg]
  have glr : g.lr = w2.heap.size + 1 := by rw [← hgg]
  have gD : g.D = w2.heap.size := by rw [← hgg]
  have gtmps : g.tmps = a2.tmps := by rw [← hgg]
  have gw0 : g.w0 = w := by rw [← hgg]
  have gMB : ∀ k, M k → g.MB k := fun k hk => by rw [← hgg]; exact .inl (.inl hk)
  have gb1 : g.b1 = b1 := by rw [← hgg]
  have gb2 : g.b2 = b2 := by rw [← hgg]
  have hen := run_enterLoop_outer (P := P) (w := w2) fn0 a2.tmps #[p] as bd
  have erec : ({ state := .ready, pending := none, fn := fn0, tmps := a2.tmps, params := #[p], assign := as, body := bd, defers := w2.heap.size } : Loop) = g.lp .ready none := by rw [← hgg]; rfl
  rw [erec] at hen
  obtain ⟨w3, hw3⟩ : ∃ w3, (w2.alloc (.deferred (some []))).alloc (.loop (g.lp .ready none)) = w3 := ⟨_, rfl⟩
  rw [hw3] at hcal hit hlr hen
  refine ⟨w2.heap.size + 1, _, w3, { target := .fn (.func fi) #[.pointer (some ⟨b1, 0, none⟩), .pointer (some ⟨b2, 0, none⟩)], args := #[.func (.yield (w2.heap.size + 1)) #[] #[]] }, w3, fi, #[.func (.yield (w2.heap.size + 1)) #[] #[]] ++ #[.pointer (some ⟨b1, 0, none⟩), .pointer (some ⟨b2, 0, none⟩)], w3, hen, ?_, fun _ _ => trivial, ?_, fun h => (by cases h), ?_⟩
  · simp only [resolve, hev]
    simp [go_sem]
  · simp [invoke, go_sem, heg]
  have hDM : g.MB g.D := .inl hg.D
  have gS0 : ∀ k, ¬ g.S0 k := fun k hk => by rw [← hgg] at hk; exact not_own_nil hk
  have fD : w.heap.size ≤ g.D := by have := hg.fD; rwa [gw0] at this
  have fin' : ∀ {m4 : Mem} {ρ4 : Nat → Value} {w5 : World}, Cal g m4 ρ4 w5 → ∀ {t6 : Tm} {m6 : Mem} {ρ6 : Nat → Value} {a6 : Act} {w6 : World}, Inv ⟨P, g.MB, w5, Own m4 ρ4, a2.tmps.size, 0, 0, m4, ρ4, [{ target := .collected w2.heap.size, args := #[] }], fun _ => true⟩ t6 m6 ρ6 a6 w6 → resB P t6 m6 fn.results.toList (fun ps => fin 0 m6 (oneB ps) Q) →
      LeavesInM Fence.wide 2 P fn a6.tmps (fun e w' => (∃ v r m' ρ', e = .returned v ∧ Q r m' ∧ Fr (Own [] ρ) w w' ∧ Rep M w' m' ρ' r v ∧ MemOk P M w' m' ρ' ∧ Foot ⟨P, M, w, Own [] ρ, 0, ([] : Mem).length, 0, [], ρ, [], fun _ => true⟩ m' ρ' ∧ ∀ b k, Live m' b → own1 (ρ' b) = some k → w.heap.size ≤ k ∨ Own [] ρ k) ∨
        ∃ v, e = .panicked [{ v := v, recovered := false }] ∧ False ∧ Fr (Own [] ρ) w w') a6.defers .returning w6 := by
    intro m4 ρ4 w5 hc5 t6 m6 ρ6 a6 w6 h6 hres
    rw [show a6.defers = [{ target := .collected w2.heap.size, args := #[] }] from h6.df]
    have hD6 : w6.heap[g.D]? = some (.deferred (some [])) := (h6.fr.block g.D (hc5.lt _ hDM) (fun ⟨b, hb, hk⟩ => hc5.mem.out b _ hb hk hDM)).trans hc5.df
    refine ⟨by simp, .inl ⟨g.D, _, by rw [gD], run_takeDeferred hD6, ?_⟩⟩
    have hoth : ∀ k, k ≠ g.D → (w6.putObj g.D (.deferred none)).heap[k]? = w6.heap[k]? := fun k hk => World.putObj_heap_other hk
    have hcells : ∀ (k : Nat) vs te x, w6.heap[k]? = some (.cells vs te x) → (w6.putObj g.D (.deferred none)).heap[k]? = some (.cells vs te x) := fun k vs te x hk => by
      rw [hoth k (fun e => by subst e; rw [hD6] at hk; cases hk)]; exact hk
    have hmem7 : MemOk P M (w6.putObj g.D (.deferred none)) m6 ρ6 := h6.mem.cells hcells gMB
    have s5 : w.heap.size ≤ w5.heap.size := by have := hc5.fr.size; rwa [gw0] at this
    have hnew4 : ∀ k, Own m4 ρ4 k → w.heap.size ≤ k := fun k ⟨b, hb, hk⟩ => by
      have := hc5.new b k hb hk
      rw [gw0] at this
      exact this.resolve_right (gS0 k)
    have h7 : Inv ⟨P, M, w, Own [] ρ, vs.size + (fn.ntmps - vs.size), 0, 0, [], ρ, [], fun _ => true⟩ t6 m6 ρ6 { a6 with defers := [] } (w6.putObj g.D (.deferred none)) := by
      refine ⟨h6.sz.trans hsz, rfl, fun t => (h6.tm t).cells (cell_of_block hcells) gMB, hmem7.blk, hmem7.sep, fun b k hb hk => ?_, ?_, hM, fun k hk => absurd hk not_own_nil, ⟨Nat.zero_le _, fun b cs hb => absurd hb (Nat.not_lt_zero _), fun b e es hb => absurd hb (Nat.not_lt_zero _), fun b hb => absurd hb (Nat.not_lt_zero _)⟩⟩
      · rcases h6.new b k hb hk with h | h
        · exact .inl (Nat.le_trans s5 h)
        · exact .inl (hnew4 k h)
      · have hfr := hc5.fr
        rw [gw0] at hfr
        have e1 : (w6.putObj g.D (.deferred none)).heap.size = w6.heap.size := by simp [World.putObj]
        refine ⟨h6.fr.os.trans hfr.os, h6.fr.tape.trans hfr.tape, h6.fr.output.trans hfr.output, by rw [e1]; exact Nat.le_trans s5 h6.fr.size, fun k hk _ => ?_⟩
        have hk2 : k < w.heap.size := hk
        rw [hoth k (by omega)]
        exact (h6.fr.block k (Nat.lt_of_lt_of_le hk2 s5) (fun hh => by have := hnew4 k hh; omega)).trans (hfr.block k hk2 (gS0 k))
    obtain ⟨ps, v, h3, h4, h5⟩ := results_sound (fn := fn) h7 hres
    obtain ⟨r, m', ρ', q6, q7, q8⟩ := fin_sound h7 h5 h3
    exact ⟨v, h4, .inl ⟨v, r, m', ρ', rfl, q6, h7.fr, q7, ⟨q8.blk, q8.sep, fun b k hb hk => q8.out hb hk⟩, ⟨q8.ft.len, q8.ft.var, q8.ft.row, q8.ft.dead⟩, q8.new⟩⟩
  have start5 : ∀ {m4 : Mem} {ρ4 : Nat → Value} {w5 : World}, Cal g m4 ρ4 w5 → Inv ⟨P, g.MB, w5, Own m4 ρ4, a2.tmps.size, 0, 0, m4, ρ4, [{ target := .collected w2.heap.size, args := #[] }], fun _ => true⟩ tmR m4 ρ4 { a2 with defers := [{ target := .collected w2.heap.size, args := #[] }] ++ a2.defers } w5 := by
    intro m4 ρ4 w5 hc5
    have hmm := hc5.mem
    rw [gP] at hmm
    have := mkInv (a := { a2 with defers := [{ target := .collected w2.heap.size, args := #[] }] ++ a2.defers }) (tm := tmR) hc5.lt hmm (fun t => by have := hc5.tm t; rwa [gtm, gtmps] at this) 0 0 (Nat.zero_le _) (fun _ => true)
    rw [hdf] at this ⊢
    exact this
  refine CallsIn.mono (R := fun e W => ∃ v, e = .returned v ∧ ((∃ m ρ, X [] m ∧ Cal g m ρ W ∧ W.heap[g.lr]? = some (.loop (g.lp .ready none))) ∨ ∃ m ρ, (resB P tmR m fn.results.toList fun ps => fin 0 m (oneB ps) Q) ∧ Cal g m ρ W ∧ W.heap[g.lr]? = some (.loop (g.lp .done (some .ret))))) ?_ ?_
  · have hgt : ∀ (j : Nat) (v : Value), (#[.func (.yield (w2.heap.size + 1)) #[] #[]] ++ #[.pointer (some ⟨b1, 0, none⟩), .pointer (some ⟨b2, 0, none⟩)] : Array Value)[j]? = some v → (#[.func (.yield (w2.heap.size + 1)) #[] #[]] ++ #[.pointer (some ⟨b1, 0, none⟩), .pointer (some ⟨b2, 0, none⟩)] ++ Array.replicate (ffn.ntmps - 3) undef : Array Value).getD j undef = v := fun j v hj => by
      rw [Array.getD_eq_getD_getElem?, Array.getElem?_append_left (Array.getElem?_eq_some_iff.1 hj).1, hj]; rfl
    have hall := iter_all (g := g) (by rw [gP]; exact hm) hg (i := i) (lentI := lentI) (liveI := liveI) (trI := trI) (enc := enc) (c := c) (cmp := cmp) (by rw [gP]; exact hi) (lent := lent) (live := live) (tr := tr) (by rw [gtmps, hsz, gas]; exact okCode_mono hN as has) (by rw [gas]; exact has2) (by rw [gtmps, hsz, gbd]; exact okCode_mono hN bd hbd) (by rw [gbd]; exact hbd2) (X := X) (Z := fun m => resB P tmR m fn.results.toList fun ps => fin 0 m (oneB ps) Q) (by rw [gP, gas, gbd, gtm, gp]; exact HR) l.length l (Nat.le_refl _) hl m3 ρ3 w3 { tmps := #[.func (.yield (w2.heap.size + 1)) #[] #[]] ++ #[.pointer (some ⟨b1, 0, none⟩), .pointer (some ⟨b2, 0, none⟩)] ++ Array.replicate (ffn.ntmps - 3) undef, defers := [] } [(0, .val g.yv), (1, .adr 0 0), (2, .adr 1 0)] hX hcal hlr hit (by simp [hiN]) rfl ⟨rfl, rfl, rfl⟩ (fun t => by
        simp only [get]
        split
        · rename_i e; subst e; rw [hgt 0 _ rfl, ← glr]; exact .inr (.inr (.inr ⟨rfl, rfl⟩))
        · split
          · rename_i e; subst e; rw [hgt 1 _ rfl, ← gb1]; exact .inr (.inl ⟨rfl, rfl⟩)
          · split
            · rename_i e; subst e; rw [hgt 2 _ rfl, ← gb2]; exact .inr (.inr (.inl ⟨rfl, rfl⟩))
            · exact .inl rfl)
    rw [gP] at hall
    refine callsIn_of_wp hff hfb trivial (Go.wpIn_block (Go.wpIn_mono (LoopAt.loop hall) ?_))
    have hres : ∀ (tmps : Array Value) (W : World), (results ffn tmps).run P W = .ok (.tuple #[]) W := fun tmps W => by simp [results, hfr]
    intro e a W hq
    cases e with
    | exit j =>
      obtain ⟨rfl, h1, m, ρ, h2, h3, h4⟩ := hq
      rw [Exit.inBlock, if_pos rfl]
      exact ⟨h1, _, hres _ _, _, rfl, .inl ⟨m, ρ, h2, h3, h4⟩⟩
    | ret =>
      obtain ⟨h1, m, ρ, h2, h3, h4⟩ := hq
      exact ⟨h1, _, hres _ _, _, rfl, .inr ⟨m, ρ, h2, h3, h4⟩⟩
    | normal => exact hq.elim
    | goto l => exact hq.elim
    | panic ch => exact hq.elim
    | outgrown => exact hq.elim
  · rintro e W ⟨v, rfl, ⟨m, ρ', hX5, hc5, hl5⟩ | ⟨m, ρ', hZ5, hc5, hl5⟩⟩
    · have hend := run_endLoop (P := P) hl5 (by simp [Rg.lp])
      rw [glr] at hend
      refine ⟨none, _, hend, ?_⟩
      have hc6 := hc5.move hg (fr_put (.loop { g.lp .ready none with state := .exhausted })) (fun k hk => .inr (.inr hk))
      rw [glr] at hc6
      have h5 := start5 hc6
      refine wpIn_wide.2 (wp_mono (execC_sound (c := ⟨P, g.MB, _, Own m ρ', a2.tmps.size, 0, 0, m, ρ', [{ target := .collected w2.heap.size, args := #[] }], fun _ => true⟩) hm (K := done P 0 fn.results.toList Q) (fun v tm m d _ h => h) (by show okCode a2.tmps.size _ _ _ = true; rw [hsz]; exact okCode_mono hN C hC) (HC m hX5) h5) fun e a6 w6 hq => ?_)
      cases e with
      | normal => obtain ⟨t6, m6, ρ6, q1, q2⟩ := hq; exact fin' hc6 q2 q1
      | ret => obtain ⟨t6, m6, ρ6, q1, q2⟩ := hq; exact fin' hc6 q2 q1
      | exit id => obtain ⟨_, _, _, h1, _⟩ := hq; exact h1.elim
      | goto l => exact hq.elim
      | outgrown => exact hq.elim
      | panic ch => obtain ⟨v, _, _, _, _, h1, _⟩ := hq; exact h1.elim
    · have hend := run_endLoop (P := P) hl5 (by simp [Rg.lp])
      rw [glr] at hend
      refine ⟨some .ret, _, hend, Go.wpIn_ret ?_⟩
      have hc6 := hc5.move hg (fr_put (.loop { g.lp .done (some .ret) with state := .exhausted })) (fun k hk => .inr (.inr hk))
      rw [glr] at hc6
      exact fin' hc6 (start5 hc6) hZ5
end
end Go.V
