import Derived.Test.YtfmhmlijnidflaaV1
set_option linter.unusedVariables false
set_option linter.unusedSimpArgs false
namespace Go.V
open Go
structure MemOk (P : Program) (M : Nat → Prop) (w : World) (m : Mem) (ρ : Nat → Value) : Prop where
  blk : ∀ b x, m[b]? = some x → BlkOk P M w m ρ (ρ b) x
  sep : ∀ b b' k, Live m b → Live m b' → own1 (ρ b) = some k → own1 (ρ b') = some k → b = b'
  out : ∀ b k, Live m b → own1 (ρ b) = some k → ¬ M k
/-- What a call does: handed what args tell, over m, it gives back something told of which Q holds, or panics with a value of which R holds. -/
def DoesR (P : Program) (f : FuncId) (args : List PV) (m : Mem) (np : Nat) (Q : PV → Mem → Prop) (R : Value → Prop) : Prop := (∃ fn c, P.funcs[f]? = some fn ∧ fn.body = some c ∧ (fn.name == "runtime.NumGoroutine") = false) ∧
  ∀ (M : Nat → Prop) (w : World) (vs : Array Value) (ρ : Nat → Value), (∀ k, M k → k < w.heap.size) → MemOk P M w m ρ → args.length = vs.size → (∀ (i : Nat) (p : PV) (v : Value), args[i]? = some p → vs[i]? = some v → Rep M w m ρ p v) →
    Calls P f vs w fun e w' => (∃ v r m' ρ', e = .returned v ∧ Q r m' ∧ Fr (Own m ρ) w w' ∧ Rep M w' m' ρ' r v ∧ MemOk P M w' m' ρ' ∧ Foot ⟨P, M, w, Own m ρ, 0, m.length, np, m, ρ, [], fun _ => true⟩ m' ρ' ∧ ∀ b k, Live m' b → own1 (ρ' b) = some k → w.heap.size ≤ k ∨ Own m ρ k) ∨
      ∃ v, e = .panicked [{ v := v, recovered := false }] ∧ R v ∧ Fr (Own m ρ) w w'
def Does (P : Program) (f : FuncId) (args : List PV) (m : Mem) (np : Nat) (Q : PV → Mem → Prop) : Prop := DoesR P f args m np Q fun _ => False
theorem DoesR.mono {P : Program} {f : FuncId} {args : List PV} {m : Mem} {np : Nat} {Q Q' : PV → Mem → Prop} {R R' : Value → Prop} (h : DoesR P f args m np Q R) (hQ : ∀ r m', Q r m' → Q' r m') (hR : ∀ v, R v → R' v) : DoesR P f args m np Q' R' :=
  ⟨h.1, fun M w vs ρ hM hm hl hr => (h.2 M w vs ρ hM hm hl hr).mono fun e w' he => by
    rcases he with ⟨v, r, m', ρ', h1, h2, h3⟩ | ⟨v, h1, h2, h3⟩
    · exact .inl ⟨v, r, m', ρ', h1, hQ r m' h2, h3⟩
    · exact .inr ⟨v, h1, hR v h2, h3⟩⟩
theorem Does.mono {P : Program} {f : FuncId} {args : List PV} {m : Mem} {np : Nat} {Q Q' : PV → Mem → Prop} (h : Does P f args m np Q) (hQ : ∀ r m', Q r m' → Q' r m') : Does P f args m np Q' := DoesR.mono h hQ fun _ h => h
theorem Does.run {P : Program} {f : FuncId} {args : List PV} {m : Mem} {np : Nat} {Q : PV → Mem → Prop} (h : Does P f args m np Q) {M : Nat → Prop} {w : World} {vs : Array Value} {ρ : Nat → Value} (hM : ∀ k, M k → k < w.heap.size) (hm : MemOk P M w m ρ) (hl : args.length = vs.size) (hr : ∀ (i : Nat) (p : PV) (v : Value), args[i]? = some p → vs[i]? = some v → Rep M w m ρ p v) :
    Calls P f vs w fun e w' => ∃ v r m' ρ', e = .returned v ∧ Q r m' ∧ Fr (Own m ρ) w w' ∧ Rep M w' m' ρ' r v ∧ MemOk P M w' m' ρ' ∧ Foot ⟨P, M, w, Own m ρ, 0, m.length, np, m, ρ, [], fun _ => true⟩ m' ρ' ∧ ∀ b k, Live m' b → own1 (ρ' b) = some k → w.heap.size ≤ k ∨ Own m ρ k :=
  (h.2 M w vs ρ hM hm hl hr).mono fun e w' he => he.resolve_right fun ⟨v, _, h, _⟩ => h
def landV (P : Program) (tm : Tm) (m : Mem) (d : Option Tmp) (k : Tm → Mem → Prop) (bs : List Nat) (r : PV) (m' : Mem) : Prop :=
  if (closed r && closedM P m') = true then k (put tm d (ren (shift m.length) false r)) (m ++ m'.map (renB (shift m.length) false))
  else k (put (frzT bs m tm) d (ren (shift m.length) false r)) (frzM bs m 0 m ++ m'.map (renB (shift m.length) false))
def callV (P : Program) (kp : Value → Tm → Mem → Prop) (tm : Tm) (m : Mem) (d : Option Tmp) (k : Tm → Mem → Prop) (g : FuncId) (args : List PV) (bs : List Nat) : Prop := DoesR P g args [] 0 (landV P tm m d k bs) (fun v => kp v tm m)
def alive (P : Program) : Nat → List Nat → Mem → Mem → Bool
  | _, [], _, _ => true
  | j, b :: es, m, m' => (match m[b]?, m'[j]? with
    | some (.var _), some (.var _) => true
    | some (.row e _), some (.row e' _) => e == e'
    | _, _ => false) && alive P (j + 1) es m m'
def backN (es : List Nat) (L : Nat) (i : Nat) : Option Nat := if i < es.length then es[i]? else some (L + (i - es.length))
def setAll : Mem → List (Nat × Blk) → Mem
  | m, [] => m
  | m, (b, x) :: l => setAll (m.set b x) l
def wipeAllT (tm : Tm) : List Nat → Tm
  | [] => tm
  | b :: l => wipeAllT (wipeT b tm) l
def wipeAllM (m : Mem) : List Nat → Mem
  | [] => m
  | b :: l => wipeAllM (wipeM b m) l
/-- Behind a call that was lent places of m (es; the first np of them keep their headers). -/
def landM (P : Program) (tm : Tm) (m : Mem) (d : Option Tmp) (k : Tm → Mem → Prop) (np : Nat) (es : List Nat) (r : PV) (m' : Mem) : Prop :=
  need (alive P 0 es m m' = true) (k (put (wipeAllT tm (es.drop np)) d (ren (backN es m.length) false r)) (setAll (wipeAllM m (es.drop np)) (es.zip (m'.map (renB (backN es m.length) false))) ++ (m'.drop es.length).map (renB (backN es m.length) false)))
def lentTo (m : Mem) (ps : List PV) : List Nat := dd (dd [] (idss ps)) (cellIds m (dd [] (idss ps)))
def atLeast (n : Nat) : List Nat → Bool
  | [] => true
  | b :: l => decide (n ≤ b) && atLeast n l
def callM (P : Program) (np0 : Nat) (tm : Tm) (m : Mem) (d : Option Tmp) (k : Tm → Mem → Prop) (g : FuncId) (ps : List PV) : Prop :=
  need (atLeast np0 ((lentTo m ps).drop (dd [] (idss ps)).length) = true) (Does P g (ps.map (ren (pos 0 (lentTo m ps)) true)) (canonM 0 m (lentTo m ps) true) (dd [] (idss ps)).length (landM P tm m d k (dd [] (idss ps)).length (lentTo m ps)))
def strT (P : Program) (t : TypeId) : Bool := match P.underlying t with
  | some .string => true
  | _ => false
/-- What is known of numbers that are reckoned with. -/
def learn (op : BinOp) (a b : Value) (k : Prop) : Prop := match op, a, b with
  | .add, .int .i64 x, .int .i64 y => know (-9223372036854775808 ≤ x ∧ x ≤ 9223372036854775807 ∧ -9223372036854775808 ≤ y ∧ y ≤ 9223372036854775807) k
  | .sub, .int .i64 x, .int .i64 y => know (-9223372036854775808 ≤ x ∧ x ≤ 9223372036854775807 ∧ -9223372036854775808 ≤ y ∧ y ≤ 9223372036854775807) k
  | .mul, .int .i64 x, .int .i64 y => know (-9223372036854775808 ≤ x ∧ x ≤ 9223372036854775807 ∧ -9223372036854775808 ≤ y ∧ y ≤ 9223372036854775807) k
  | .quo, .int .i64 x, .int .i64 y => know (-9223372036854775808 ≤ x ∧ x ≤ 9223372036854775807 ∧ -9223372036854775808 ≤ y ∧ y ≤ 9223372036854775807) k
  | .rem, .int .i64 x, .int .i64 y => know (-9223372036854775808 ≤ x ∧ x ≤ 9223372036854775807 ∧ -9223372036854775808 ≤ y ∧ y ≤ 9223372036854775807) k
  | .add, .int .u64 x, .int .u64 y => know (0 ≤ x ∧ x ≤ 18446744073709551615 ∧ 0 ≤ y ∧ y ≤ 18446744073709551615) k
  | .sub, .int .u64 x, .int .u64 y => know (0 ≤ x ∧ x ≤ 18446744073709551615 ∧ 0 ≤ y ∧ y ≤ 18446744073709551615) k
  | .quo, .int .u64 x, .int .u64 y => know (0 ≤ x ∧ x ≤ 18446744073709551615 ∧ 0 ≤ y ∧ y ≤ 18446744073709551615) k
  | .rem, .int .u64 x, .int .u64 y => know (0 ≤ x ∧ x ≤ 18446744073709551615 ∧ 0 ≤ y ∧ y ≤ 18446744073709551615) k
  | _, _, _ => k
def learn1 (a : Value) (k : Prop) : Prop := match a with
  | .int .i64 x => know (-9223372036854775808 ≤ x ∧ x ≤ 9223372036854775807) k
  | .int .u64 x => know (0 ≤ x ∧ x ≤ 18446744073709551615) k
  | _ => k
theorem okB_i64 {x : Int} (h : okB (.int .i64 x) = true) : -9223372036854775808 ≤ x ∧ x ≤ 9223372036854775807 := by
  have := okB_int h
  simpa [IntKind.min, IntKind.max, IntKind.bits, IntKind.signed] using this
theorem okB_u64 {x : Int} (h : okB (.int .u64 x) = true) : 0 ≤ x ∧ x ≤ 18446744073709551615 := by
  have := okB_int h
  simpa [IntKind.min, IntKind.max, IntKind.bits, IntKind.signed] using this
theorem learn_e {op : BinOp} {a b : Value} {k : Prop} (h : learn op a b k) (ha : okB a = true) (hb : okB b = true) : k := by
  unfold learn at h
  split at h <;> first | exact h ⟨(okB_i64 ha).1, (okB_i64 ha).2, (okB_i64 hb).1, (okB_i64 hb).2⟩ | exact h ⟨(okB_u64 ha).1, (okB_u64 ha).2, (okB_u64 hb).1, (okB_u64 hb).2⟩ | exact h
theorem learn1_e {a : Value} {k : Prop} (h : learn1 a k) (ha : okB a = true) : k := by
  unfold learn1 at h
  split at h <;> first | exact h (okB_i64 ha) | exact h (okB_u64 ha) | exact h
theorem tmod_le {x y : Int} (h : 0 ≤ x) : x.tmod y ≤ x := by
  have h1 := Int.mul_tdiv_add_tmod x y
  by_cases hy : 0 ≤ y
  · have h2 : 0 ≤ x.tdiv y := Int.tdiv_nonneg h hy
    have h3 := Int.mul_nonneg hy h2
    omega
  · have h2 : 0 ≤ x.tdiv (-y) := Int.tdiv_nonneg h (by omega)
    rw [Int.tdiv_neg] at h2
    have h3 := Int.mul_nonneg (show 0 ≤ -y by omega) h2
    rw [Int.neg_mul_neg] at h3
    omega
theorem binV_ok {P : Program} {t : TypeId} {op : BinOp} {a b v : Value} (h : binV P t op a b = some v) (ha : okB a = true) (hb : okB b = true) : okB v = true := by
  unfold binV at h
  split at h
  · split at h
    · rename_i k x k' y hk
      subst hk
      have hx := okB_int ha
      by_cases hs : op = .shr
      · subst hs
        dsimp only at h
        split at h
        · rename_i h1; obtain ⟨rfl, rfl⟩ := h1; cases h; refine decide_eq_true ?_; simp [IntKind.min, IntKind.max, IntKind.bits, IntKind.signed] at hx ⊢; omega
        · split at h
          · rename_i h1; obtain ⟨rfl, rfl⟩ := h1; cases h; refine decide_eq_true ?_; simp [IntKind.min, IntKind.max, IntKind.bits, IntKind.signed] at hx ⊢; omega
          · cases h
      cases op <;> simp at h hs <;> (first | (subst h; first | exact okB_wrap _ _ | rfl) | (obtain ⟨⟨rfl, rfl⟩, rfl⟩ := h; refine decide_eq_true ?_; simp [IntKind.min, IntKind.max, IntKind.bits, IntKind.signed] at hx ⊢; omega) | (obtain ⟨h1, rfl⟩ := h; first | exact okB_wrap _ _ | skip))
      have hm := min_max k
      refine decide_eq_true ?_
      rcases Int.le_total 0 x with h0 | h0
      · have h2 : 0 ≤ x.tmod y := Int.tmod_nonneg y h0
        have h3 : x.tmod y ≤ x := tmod_le h0
        omega
      · have h2 : 0 ≤ (-x).tmod y := Int.tmod_nonneg y (by omega)
        have h3 : (-x).tmod y ≤ -x := tmod_le (by omega)
        rw [Int.neg_tmod] at h2 h3
        omega
    · cases h
  · split at h
    · cases op <;> simp at h <;> (subst h; rfl)
    · cases h
  · rename_i x y
    cases op <;> simp at h <;> (first | (subst h; rfl) | (obtain ⟨h1, rfl⟩ := h; refine decide_eq_true ?_; simp only [ByteArray.size_append]; omega))
  · cases h
theorem unV_ok {op : UnOp} {a v : Value} (h : unV op a = some v) : okB v = true := by
  unfold unV at h
  split at h
  · cases op <;> simp at h <;> (subst h; exact okB_wrap _ _)
  · cases op <;> simp at h <;> (subst h; rfl)
  · cases h
def storeP (P : Program) (d : Option Tmp) (k : Tm → Mem → Prop) (t : TypeId) (x y : Operand) (tm : Tm) (m : Mem) : Prop := onPtr (ev tm x)
    (fun b o => cells (ev tm y) fun ns => onVarB m[b]? fun cs => need (sizeT P t = some ns.length ∧ o + ns.length ≤ cs.length) (k (put tm d (.val undef)) (m.set b (.var (splice cs o ns)))))
    (fun b i j => cells (ev tm y) fun ns => onRowB m[b]? fun e es => onS es[i]? fun c => need (sizeT P t = some ns.length ∧ j + ns.length ≤ c.length ∧ pures ns = true ∧ (!flatT P e || ns.all flatP) = true) (k (put tm d (.val undef)) (m.set b (.row e (es.set i (splice c j ns))))))
    (fun _ => False)
section
variable (P : Program) (np : Nat) (lent : FuncId → Bool) (kp : Value → Tm → Mem → Prop)
/-- One operation. -/
def step (tm : Tm) (m : Mem) (d : Option Tmp) (ty : TypeId) (k : Tm → Mem → Prop) : Op → Prop
  | .move x => k (put tm d (ev tm x)) m
  | .assign (.const (.slice none 0 0)) => onS (elemOf P ty) fun e => onS (rowSize P e) fun _ => k (put tm d (.own m.length)) (m ++ [.row e []])
  | .assign x => k (put tm d (ev tm x)) m
  | .pick c x y => onBool (ev tm c) fun b => ifB b (k (put tm d (ev tm x)) m) (k (put tm d (ev tm y)) m)
  | .box _ x => cells (ev tm x) fun cs => k (put tm d (.adr m.length 0)) (m ++ [.var cs])
  | .alloc t => onS (zeroOf P t) fun zs => k (put tm d (.adr m.length 0)) (m ++ [.var (zs.map .val)])
  | .nilCheck x => onPtr (ev tm x) (fun b i => k (put tm d (.adr b i)) m) (fun b i j => k (put tm d (.ead b i j)) m) (fun cs => k (put tm d (.cad cs)) m)
  | .load t x => at1 m (ev tm x) fun cs => onS (loadC P t cs) fun p => k (put tm d p) m
  | .store t x y => ifB (isEad (ev tm x) && !none0 (ids (ev tm y))) (storeP P d k t x y (frzT (ids (ev tm y)) m tm) (frzM (ids (ev tm y)) m 0 m)) (storeP P d k t x y tm m)
  | .fieldAddr s x f => onS (fieldOff P s f) fun o => onPtr (ev tm x) (fun b o' => k (put tm d (.adr b (o' + o))) m) (fun b i j => k (put tm d (.ead b i (j + o))) m) (fun cs => k (put tm d (.cad (cs.drop o))) m)
  | .indexAddr t x i => onInt (ev tm i) fun _ n => onRow (ev tm x)
    (fun es => onS (idx es n) fun cs => need (elemSize P t = some cs.length) (k (put tm d (.cad cs)) m))
    (fun b => row1 m (.own b) fun es => onS (idx es n) fun cs => need (elemSize P t = some cs.length) (k (put tm d (.ead b n.toNat 0)) m))
    (fun b l h => row1 m (.osl b l h) fun es => onS (idx es n) fun cs => need (elemSize P t = some cs.length) (k (put tm d (.ead b (l + n.toNat) 0)) m))
  | .extract x i => onTup (ev tm x) fun vs => onS vs[i]? fun p => k (put tm d p) m
  | .binOp op t x (.const (.slice none 0 0)) _ => need (sliceT P t = true) (row1 m (ev tm x) fun es => match op with
      | .eql => nilQ es fun b => k (put tm d (.val (.bool b))) m
      | .neq => nilQ es fun b => k (put tm d (.val (.bool !b))) m
      | _ => False)
  | .binOp op t x y _ => onValA (ev tm x) (fun a => onVal (ev tm y) fun b => learn op a b (onS (binV P t op a b) fun v => k (put tm d (.val v)) m))
      (fun cs => onAgg (ev tm y) fun ds => onS (eqShape P t) fun l => onS (eqGo l cs ds) fun b => match op with
        | .eql => k (put tm d (.val (.bool b))) m
        | .neq => k (put tm d (.val (.bool !b))) m
        | _ => False)
  | .unOp op _ x => onVal (ev tm x) fun a => learn1 a (onS (unV op a) fun v => k (put tm d (.val v)) m)
  | .convert s t x => onInt (ev tm x) fun k0 n => learn1 (.int k0 n) (onS (intT P s t) fun kd => k (put tm d (.val (.int kd (kd.wrap n)))) m)
  | .makeFunc (.func f) first caps => need (first.toList = []) (k (put tm d (.fn f (caps.toList.map (ev tm)))) m)
  | .makeSlice t l c => onS (elemOf P t) fun e => onS (rowSize P e) fun _ => onS (zeroOf P e) fun zs => onInt (ev tm l) fun _ n => onInt (ev tm c) fun _ u =>
      need (0 ≤ n ∧ n ≤ u ∧ u ≤ 1000000000) (need (zs.all (fun z => flatP (.val z) || !flatT P e) = true) (k (put tm d (.own m.length)) (m ++ [.row e (List.replicate n.toNat (zs.map .val))])))
  | .slice t x lo hi none => ifB (nilP (ev tm x)) (onS (elemSize P t) fun _ => onS (bound 0 (lo.map (ev tm))) fun l => onS (bound 0 (hi.map (ev tm))) fun h => need (l = 0 ∧ h = 0) (k (put tm d (.val (.slice none 0 0))) m)) (onRow (ev tm x)
    (fun es => onS (bound 0 (lo.map (ev tm))) fun l => onS (bound es.length (hi.map (ev tm))) fun h => onS (elemSize P t) fun z => need (0 ≤ l ∧ l ≤ h ∧ h ≤ es.length ∧ ∀ x ∈ es, x.length = z) (k (put tm d (.sl ((es.take h.toNat).drop l.toNat))) m))
    (fun b => onRowB m[b]? fun e es => onS (bound 0 (lo.map (ev tm))) fun l => onS (bound es.length (hi.map (ev tm))) fun h => need (elemOf P t = some e) (need (0 ≤ l ∧ l ≤ h ∧ h ≤ es.length) (k (put tm d (.osl b l.toNat h.toNat)) m)))
    (fun b l' h' => onRowB m[b]? fun e es => onS (bound 0 (lo.map (ev tm))) fun l => onS (bound ((h' - l' : Nat) : Int) (hi.map (ev tm))) fun h => need (elemOf P t = some e) (need (0 < l' ∧ 0 ≤ l ∧ l ≤ h ∧ h ≤ ((h' - l' : Nat) : Int)) (k (put tm d (.osl b (l' + l.toNat) (l' + h.toNat))) m))))
  | .slice t x lo (some hi) (some mx) => onRow (ev tm x) (fun es => onInt (ev tm mx) fun _ u => onInt (ev tm hi) fun _ h => onS (bound 0 (lo.map (ev tm))) fun l => onS (elemSize P t) fun z => need (0 ≤ l ∧ l ≤ h ∧ h ≤ u ∧ u ≤ es.length ∧ ∀ x ∈ es, x.length = z) (k (put tm d (.sl ((es.take h.toNat).drop l.toNat))) m)) (fun _ => False) (fun _ _ _ => False)
  | .call { callee := .builtin .clear, args, argTypes } => onOne args.toList fun x => onOne argTypes.toList fun t => onRow (ev tm x) (fun _ => False) (fun _ => False) (fun b l h => onRowB m[b]? fun e es => need (elemOf P t = some e) (onS (zeroOf P e) fun zs => need (l < h ∧ h ≤ es.length ∧ zs.all (fun z => flatP (.val z) || !flatT P e) = true)
      (k (put tm d (.tup [])) (m.set b (.row e (splice es l (List.replicate (h - l) (zs.map .val))))))))
  | .build t parts => onS (layout P t) fun x => fillB x.1 (x.2.map .val) (parts.toList.map fun y => (y.1, ev tm y.2)) fun cs => k (put tm d (.agg cs)) m
  | .buildSlice t n parts => onS (elemOf P t) fun e => onS (rowSize P e) fun _ => need (n = parts.toList.length ∧ n ≤ 1000 ∧ seqFrom 0 parts.toList = true)
      (partCells ((parts.toList.map fun x => ev tm x.2).map (frz1 (idss (parts.toList.map fun x => ev tm x.2)) m)) fun es => need (Fit P e es) (k (put (frzT (idss (parts.toList.map fun x => ev tm x.2)) m tm) d (.own m.length)) (frzM (idss (parts.toList.map fun x => ev tm x.2)) m 0 m ++ [.row e es])))
  | .call { callee := .builtin .len, args, argTypes } => onOne args.toList fun x => onOne argTypes.toList fun t => ifB (strT P t)
      (onStr (ev tm x) fun s => know (s.size ≤ 140737488355328) (k (put tm d (.val (.int .i64 s.size))) m))
      (onS (elemOf P t) fun _ => row1 m (ev tm x) fun es => know (es.length ≤ 9223372036854775807) (k (put tm d (.val (.int .i64 es.length))) m))
  | .call { callee := .builtin .min, args, .. } => onTwo args.toList fun x y => onInt (ev tm x) fun kd a => onInt (ev tm y) fun kd' b => need (kd = kd') (k (put tm d (.val (.int kd (if b < a then b else a)))) m)
  | .call { callee := .builtin .cap, args, argTypes } => onOne args.toList fun x => onOne argTypes.toList fun t => onS (elemOf P t) fun _ => onApp (ev tm x) (fun _ => False) (fun _ _ => False) (k (put tm d (.val (.int .i64 0))) m) (fun _ _ _ => False)
  | .call { callee := .builtin .append, args, argTypes } => onTwo args.toList fun x y => onTwo argTypes.toList fun t t' => ifB (t == t') (onApp (ev tm x)
      (fun b => need ((ids (ev tm y)).contains b = false ∧ np ≤ b) (row1 m (ev tm y) fun es2 => onRowB m[b]? fun e es => need (elemOf P t = some e) (need (es.length + es2.length ≤ 1000000000 ∧ Fit P e es2) (k (put (wipeT b tm) d (.own b)) ((wipeM b m).set b (.row e (es ++ es2)))))))
      (fun b h => need ((ids (ev tm y)).contains b = false ∧ np ≤ b) (row1 m (ev tm y) fun es2 => onRowB m[b]? fun e es => need (elemOf P t = some e) (need (es.length + es2.length ≤ 1000000000 ∧ Fit P e es2) (k (put (wipeT b tm) d (.own b)) ((wipeM b m).set b (.row e (es.take h ++ es2)))))))
      (onS (elemOf P t) fun e => onS (rowSize P e) fun _ => row1 m (ev tm y) fun es2 => need (es2.length ≤ 1000000000 ∧ Fit P e es2) (k (put tm d (.own m.length)) (m ++ [.row e es2])))
      (fun b l h => need ((ids (ev tm y)).contains b = false ∧ np ≤ b) (row1 m (ev tm y) fun es2 => onRowB m[b]? fun e es => need (elemOf P t = some e ∧ h = es.length) (need (es.length + es2.length ≤ 1000000000 ∧ Fit P e es2)
        (both (k (put (wipeT b tm) d (.own b)) ((wipeM b m).set b (.row e (es.drop l ++ es2)))) (k (put (wipeT b tm) d (.osl b l (h + es2.length))) ((wipeM b m).set b (.row e (es ++ es2)))))))))
      (onApp (ev tm x) (fun _ => False) (fun _ _ => False) (onS (elemOf P t) fun e => onS (rowSize P e) fun _ => onS (intT P t' t') fun _ => onS (zeroOf P e) fun zs => onInt (ev tm y) fun _ n => need (0 < n ∧ n ≤ 1000000000) (need (zs.all (fun z => flatP (.val z) || !flatT P e) = true) (k (put tm d (.own m.length)) (m ++ [.row e (List.replicate n.toNat (zs.map .val))])))) (fun _ _ _ => False))
  | .call { callee := .value fo, args, .. } => onFn (ev tm fo) fun g caps => ifB (lent g) (callM P np tm m d k g (args.toList.map (ev tm) ++ caps))
      (callV P kp tm m d k g ((args.toList.map (ev tm) ++ caps).map (seen m)) (deep m (idss (args.toList.map (ev tm) ++ caps))))
  | _ => False
def execOps (ops : Array Oper) (k : Tm → Mem → Prop) : List Oper → Tm → Mem → Prop
  | [], tm, m => k tm m
  | o :: rest, tm, m => match o.guard with
    | none => step P np lent kp tm m o.dst o.type (execOps ops k rest) o.op
    | some (j, want) => onS (told ops tm j want) fun b => ifB b (step P np lent kp tm m o.dst o.type (execOps ops k rest) o.op) (execOps ops k rest (put tm o.dst (.val undef)) m)
def stepO (ops : Array Oper) (K : Tm → Mem → Prop) (o : Oper) (tm : Tm) (m : Mem) : Prop := match o.guard with
    | none => step P np lent kp tm m o.dst o.type K o.op
    | some (j, want) => onS (told ops tm j want) fun b => ifB b (step P np lent kp tm m o.dst o.type K o.op) (K (put tm o.dst (.val undef)) m)
def execT (ops : Array Oper) (l : List Oper) (k : Tm → Mem → Prop) : Tr → Tm → Mem → Prop
  | .nil, tm, m => k tm m
  | .one i t, tm, m => onS l[i]? fun o => stepO P np lent kp ops (execT ops l k t) o tm m
  | .alt s t, tm, m => execT ops l k s tm m ∧ execT ops l k t tm m
/-- Whatever the order, the same state comes. -/
def joinP (k : Tm → Mem → Prop) (A : (Tm → Mem → Prop) → Prop) : Prop := ∃ X : Tm → Mem → Prop, (∀ tm m, X tm m → k tm m) ∧ A X
def execR (n : Nat) (ops : Array Oper) (k : Tm → Mem → Prop) (l : List Oper) (tm : Tm) (m : Mem) : Option (Tr × List Nat) → Prop
  | none => execOps P np lent kp ops k l tm m
  | some (T, lv) => joinP k fun X => execT P np lent kp ops l (fun tm m => head n lv tm m X) T tm m
end
section
variable (P : Program) (np : Nat) (lent : FuncId → Bool)
inductive LoopP (n : Nat) (body : KF → Tm → Mem → Prop) (live : List Nat) (K : KF) : Tm → Mem → Prop
  | mk {tm : Tm} {m : Mem} (X : Tm → Mem → Prop) (hX : ∀ tm m, X tm m → LoopP n body live K tm m) (hb : body (fun e tm' m' => match e with | .normal => head n live tm' m' X | e => K e tm' m') tm m) : LoopP n body live K tm m
variable (n : Nat) (live : Nat → List Nat) (tr : Nat → Option (Tr × List Nat))
def execC : Code → KF → Tm → Mem → Prop
  | .skip, K, tm, m => K .normal tm m
  | .region _ ops false, K, tm, m => execOps P np lent (fun v => K (.pan v)) ops (K .normal) ops.toList tm m
  | .region id ops true, K, tm, m => execR P np lent (fun v => K (.pan v)) n ops (K .normal) ops.toList tm m (tr id)
  | .seq a b, K, tm, m => execC a (andThen (execC b K) K) tm m
  | .cond c x y, K, tm, m => onBool (ev tm c) fun b => ifB b (execC x K tm m) (execC y K tm m)
  | .block id (.loop c), K, tm, m => head n (live id) tm m (LoopP n (execC c) (live id) (leave id K))
  | .block id c, K, tm, m => execC c (leave id K) tm m
  | .exit id, K, tm, m => K (.exit id) tm m
  | .scope c, K, tm, m => execC c K tm m
  | .label _, K, tm, m => K .normal tm m
  | .ret, K, tm, m => K .ret tm m
  | _, _, _, _ => False
end
def resB (P : Program) (tm : Tm) (m : Mem) : List ResultVar → (List PV → Prop) → Prop
  | [], k => k []
  | .tmp t :: l, k => resB P tm m l fun ps => k (get tm t :: ps)
  | .cell a t :: l, k => at1 m (get tm a) fun cs => onS (loadC P t cs) fun p => resB P tm m l fun ps => k (p :: ps)
def oneB : List PV → PV
  | [p] => p
  | ps => .tup ps
def doneR (P : Program) (n : Nat) (rs : List ResultVar) (Q : PV → Mem → Prop) (R : Value → Prop) : KF := fun e tm m => match e with
  | .exit _ => False
  | .pan v => R v
  | _ => resB P tm m rs fun ps => fin n m (oneB ps) Q
def done (P : Program) (n : Nat) (rs : List ResultVar) (Q : PV → Mem → Prop) : KF := doneR P n rs Q fun _ => False
theorem loop_ind {σ : Type} {n : Nat} {body : KF → Tm → Mem → Prop} {live : List Nat} {K : KF} (st : σ → Tm) (mm : σ → Mem) (μ : σ → Nat) (G : σ → Prop)
    (hs : ∀ (X : Tm → Mem → Prop) s, G s → (∀ s', μ s' < μ s → G s' → X (st s') (mm s')) → body (fun e tm' m' => match e with | .normal => head n live tm' m' X | e => K e tm' m') (st s) (mm s)) : ∀ s, G s → LoopP n body live K (st s) (mm s) := by
  have : ∀ k s, μ s < k → G s → LoopP n body live K (st s) (mm s) := by
    intro k
    induction k with
    | zero => intro s h; omega
    | succ k ih =>
      intro s hk hg
      refine .mk (fun tm m => ∃ s', μ s' < μ s ∧ G s' ∧ tm = st s' ∧ m = mm s') ?_ (hs _ s hg fun s' h1 h2 => ⟨s', h1, h2, rfl, rfl⟩)
      rintro tm m ⟨s', h1, h2, rfl, rfl⟩
      exact ih s' (by omega) h2
  exact fun s hg => this _ s (Nat.lt_succ_self _) hg
end Go.V
