import Derived.Test.YtfmhmlijnidflaaV3
set_option linter.unusedVariables false
set_option linter.unusedSimpArgs false
namespace Go.V
open Go
section
variable {c : Cx} {P : Program} {M M' : Nat → Prop} {w0 w w' : World} {S : Nat → Prop} {N : Nat} {tm : Tm} {m m' : Mem} {ρ ρ' : Nat → Value} {a : Act}
variable {np : Nat} {lent : FuncId → Bool} {kp : Value → Tm → Mem → Prop} {d : Option Tmp} {ty : TypeId} {pos : String} {af : Array Edge} {g : Option (Nat × Bool)} {k : Tm → Mem → Prop} {Q : Exit → Act → World → Prop}
theorem s_move (h : Inv c tm m ρ a w) (hd : ∀ t, d = some t → t < c.N) {x : Operand} (hs : step c.P np lent kp tm m d ty k (.move x)) : Quiet c.P ⟨d, .move x, ty, pos, af, g⟩ a w (Then c k) :=
  q_value (v := a.eval x) rfl (h.then hd (h.ev x) hs)
theorem s_pick (h : Inv c tm m ρ a w) (hd : ∀ t, d = some t → t < c.N) {x0 x y : Operand} (hs : step c.P np lent kp tm m d ty k (.pick x0 x y)) : Quiet c.P ⟨d, .pick x0 x y, ty, pos, af, g⟩ a w (Then c k) := by
  simp only [step] at hs
  obtain ⟨b, hc, hs⟩ := onBool_e hs
  unfold ifB at hs
  · have hv := (hc ▸ h.ev x0 : Rep c.M w m ρ (.val (.bool b)) (a.eval x0)).val_eq
    refine q_value (v := if b = true then a.eval x else a.eval y) (by simp [execOp, hv, asBool]) ?_
    split at hs
    · rename_i hb; rw [if_pos hb]; exact h.then hd (h.ev x) hs
    · rename_i hb; rw [if_neg hb]; exact h.then hd (h.ev y) hs
theorem s_load (h : Inv c tm m ρ a w) (hd : ∀ t, d = some t → t < c.N) {t : TypeId} {x : Operand} (hs : step c.P np lent kp tm m d ty k (.load t x)) : Quiet c.P ⟨d, .load t x, ty, pos, af, g⟩ a w (Then c k) := by
  simp only [step] at hs
  obtain ⟨cs, A, hs, hA, hc⟩ := at1_sound h.blk (h.ev x) hs
  obtain ⟨p, hp, hs⟩ := onS_e hs
  obtain ⟨v, hv, _, hr⟩ := load_sound hc hp
  exact q_value (v := v) (by simp [execOp, hA, hv]) (h.then hd hr hs)
theorem fieldOff_eq {s : TypeId} {f o : Nat} (h : fieldOff P s f = some o) : ∃ fs x i, P.underlying s = some (.struct fs) ∧ fs[f]? = some x ∧ P.info? x.type = some i ∧ i.size ≠ 0 ∧ x.offset = o := by
  unfold fieldOff at h
  split at h
  · rename_i fs hu
    split at h
    · rename_i x hx
      split at h
      · rename_i i hi
        split at h
        · cases h
        · rename_i h0; cases h; exact ⟨fs, x, i, hu, hx, hi, h0, rfl⟩
      · cases h
    · cases h
  · cases h
theorem field_run {s : TypeId} {f o : Nat} (h : fieldOff P s f = some o) (A : Addr) (w : World) : (Instr.fieldAt s (.pointer (some A)) f).run P w = .ok (.pointer (some (A.add o))) w := by
  obtain ⟨fs, x, i, hu, hx, hi, h0, rfl⟩ := fieldOff_eq h
  simp [Instr.fieldAt, run_underlying hu, hx, Instr.sureAddr, fieldPlace, sizeOf, typeInfo, hi, h0]
theorem s_fieldAddr (h : Inv c tm m ρ a w) (hd : ∀ t, d = some t → t < c.N) {s : TypeId} {x : Operand} {f : Nat} (hs : step c.P np lent kp tm m d ty k (.fieldAddr s x f)) : Quiet c.P ⟨d, .fieldAddr s x f, ty, pos, af, g⟩ a w (Then c k) := by
  simp only [step] at hs
  obtain ⟨o, ho, hs⟩ := onS_e hs
  unfold onPtr at hs
  · have hx := h.ev x
    generalize hq : a.eval x = vx at hx
    have go : ∀ A : Addr, vx = .pointer (some A) → (execOp a.eval ⟨d, .fieldAddr s x f, ty, pos, af, g⟩).run c.P w = .ok (.value (.pointer (some (A.add o)))) w := by
      intro A hA
      simp [execOp, hq, hA, field_run ho]
    split at hs
    · rename_i b o' he
      rw [he] at hx
      cases hx with
      | im hi => cases hi
      | adr hm hg => refine q_value (go _ rfl) (h.then hd ?_ hs); rw [add_none]; exact .adr hm hg
    · rename_i b i j he
      rw [he] at hx
      cases hx with
      | im hi => cases hi
      | ead hm hi hz hg => refine q_value (go _ rfl) (h.then hd ?_ hs); rw [add_none, Nat.add_assoc]; exact .ead hm hi hz hg
    · rename_i cs he
      rw [he] at hx
      cases hx with
      | im hi => cases hi
      | cad u h1 h2 =>
        refine q_value (go _ rfl) (h.then hd (.cad (fun j => u (o + j)) (fun j p hj => ?_) (fun j p hj => ?_)) hs)
        · rw [List.getElem?_drop] at hj
          rw [Addr.add_add, add_block]
          exact h1 _ _ hj
        · rw [List.getElem?_drop] at hj
          exact h2 _ _ hj
    · cases hs
theorem elemOf_eq {t e : TypeId} (h : elemOf P t = some e) : P.underlying t = some (.slice e) := by
  unfold elemOf at h
  split at h
  · rename_i e' hu; cases h; exact hu
  · cases h
theorem elemSize_eq {t : TypeId} {n : Nat} (h : elemSize P t = some n) : ∃ e i, P.underlying t = some (.slice e) ∧ P.info? e = some i ∧ i.size = n := by
  unfold elemSize at h
  cases he : elemOf P t with
  | none => rw [he] at h; cases h
  | some e =>
    rw [he] at h
    cases hi : P.info? e with
    | none => simp [hi] at h
    | some i => simp [hi] at h; exact ⟨e, i, elemOf_eq he, hi, h⟩
theorem idx_eq {es : List (List PV)} {n : Int} {cs : List PV} (h : idx es n = some cs) : 0 ≤ n ∧ n < es.length ∧ es[n.toNat]? = some cs := by
  unfold idx at h
  split at h
  · rename_i hc; exact ⟨hc.1, hc.2, h⟩
  · cases h
theorem index_run {t : TypeId} {sz : Nat} (h : elemSize P t = some sz) {kd : IntKind} {n : Int} {ad : Addr} {l c : Nat} (h0 : 0 ≤ n) (h1 : n < l) (w : World) : (Instr.indexAt t (.slice (some ad) l c) (.int kd n)).run P w = .ok (.pointer (some (ad.add (n.toNat * sz)))) w := by
  obtain ⟨e, i, hu, hi, rfl⟩ := elemSize_eq h
  simp [Instr.indexAt, asIntOf, run_underlying hu, sizeOf, typeInfo, hi, h0, h1]
theorem s_indexAddr (h : Inv c tm m ρ a w) (hd : ∀ t, d = some t → t < c.N) {t : TypeId} {x i : Operand} (hs : step c.P np lent kp tm m d ty k (.indexAddr t x i)) : Quiet c.P ⟨d, .indexAddr t x i, ty, pos, af, g⟩ a w (Then c k) := by
  simp only [step] at hs
  obtain ⟨kd, n, hi, hs⟩ := onInt_e hs
  unfold onRow at hs
  · have hiv := (hi ▸ h.ev i : Rep c.M w m ρ (.val (.int kd n)) (a.eval i)).val_eq
    have hx := h.ev x
    generalize hq : a.eval x = vx at hx
    split at hs
    · rename_i es he
      rw [he] at hx
      obtain ⟨cs, hidx, hsz, hs⟩ := onS_e hs
      · obtain ⟨h0, h1, hget⟩ := idx_eq hidx
        · cases hx with
          | im hi' =>
            cases hi' with
            | sl u hn hmx hc hl hA hr =>
              subst hn
              rcases hA with h0' | ⟨ad, rfl, hA⟩
              · omega
              · have hcl := hl cs (List.mem_of_getElem? hget)
                refine q_value (v := .pointer (some (ad.add (n.toNat * cs.length)))) (by simp [execOp, hq, hiv, index_run hsz h0 h1]) (h.then hd (.cad (u n.toNat) (fun j p hj => ?_) (fun j p hj => hr _ _ _ _ hget hj)) hs)
                obtain ⟨c1, c2, c3⟩ := hA _ _ _ _ hget hj
                rw [Addr.add_add, add_block, hcl]
                exact ⟨c1, fun ho => c2 (.inr ho), c3⟩
    · rename_i b he
      rw [he] at hx
      obtain ⟨e, es, hm, hs⟩ := onRowB_e hs
      · obtain ⟨cs, hidx, hsz, hs⟩ := onS_e hs
        · obtain ⟨h0, h1, hget⟩ := idx_eq hidx
          · cases hx with
            | im hi' => cases hi'
            | own hm' =>
              have hb := h.blk _ _ hm
              obtain ⟨g', cc, hv, _⟩ := hb.cells_row hget
              have hall : ∀ x ∈ es, x.length = cs.length := by
                obtain ⟨_, _, _, _, _, _, hl, _⟩ := hb.rowAt
                intro x hx'; rw [hl x hx', hl cs (List.mem_of_getElem? hget)]
              refine q_value (v := .pointer (some ⟨g', n.toNat * cs.length + 0, none⟩)) ?_ (h.then hd (.ead hm (by omega) hall hv) hs)
              simp [execOp, hq, hv, hiv, index_run hsz h0 h1, add_none]
    · rename_i b l hh he
      rw [he] at hx
      obtain ⟨e, es, hm, hs⟩ := onRowB_e hs
      · obtain ⟨cs, hidx, hsz, hs⟩ := onS_e hs
        · obtain ⟨h0, h1, hget⟩ := idx_eq hidx
          · obtain ⟨hget', hlt⟩ := part_get hget
            have hb := h.blk _ _ hm
            obtain ⟨g', cc, hv, _⟩ := hb.cells_row hget'
            have hall : ∀ x ∈ es, x.length = cs.length := by
              obtain ⟨_, _, _, _, _, _, hl, _⟩ := hb.rowAt
              intro x hx'; rw [hl x hx', hl cs (List.mem_of_getElem? hget')]
            have hel := lt_of_get hget'
            cases hx with
            | im hi' => cases hi'
            | osl0 hm' hl hg =>
              rename_i n' c' A' e' es'
              rw [hv] at hg
              cases hg
              refine q_value (v := .pointer (some ⟨g', n.toNat * cs.length, none⟩)) ?_ (h.then hd ?_ hs)
              · simp [execOp, hq, hiv, index_run hsz h0 (show n < (hh : Int) by omega), add_none]
              · have := Rep.ead (M := c.M) (w := w) (j := 0) hm (i := n.toNat) (by omega) hall hv
                rw [Nat.zero_add]; exact this
            | osl hm' h0l hl hhl hc hx' hs' hg =>
              rename_i c' n' c'' sz g A e' es'
              rw [hm] at hm'; cases hm'
              obtain ⟨hg1, hg, _⟩ := hg
              rcases hg1 with hg1 | rfl
              · omega
              · rw [hv] at hg
                cases hg
                have esz : sz = cs.length := by rw [← hs' cs (List.mem_of_getElem? hget')]
                subst esz
                refine q_value (v := .pointer (some ⟨g', (l + n.toNat) * cs.length, none⟩)) ?_ (h.then hd ?_ hs)
                · simp [execOp, hq, hiv, index_run hsz h0 (show n < ((hh - l : Nat) : Int) by omega), add_none, Nat.add_mul]
                · exact Rep.ead (M := c.M) (w := w) (j := 0) hm (i := l + n.toNat) (by omega) hall hv
    · cases hs
theorem val_at {cs : List PV} {vs : Array Value} (hl : cs.length = vs.size) {i : Nat} {p : PV} (hp : cs[i]? = some p) : ∃ v, vs[i]? = some v := by
  have hlt := lt_of_get hp
  exact ⟨_, Array.getElem?_eq_getElem (by omega)⟩
theorem s_extract (h : Inv c tm m ρ a w) (hd : ∀ t, d = some t → t < c.N) {x : Operand} {i : Nat} (hs : step c.P np lent kp tm m d ty k (.extract x i)) : Quiet c.P ⟨d, .extract x i, ty, pos, af, g⟩ a w (Then c k) := by
  simp only [step] at hs
  have hx := h.ev x
  generalize hq : a.eval x = vx at hx
  obtain ⟨vs, he, hs⟩ := onTup_e hs
  · rw [he] at hx
    obtain ⟨p, hp, hs⟩ := onS_e hs
    · have key : ∃ us : Array Value, vx = .tuple us ∧ vs.length = us.size ∧ ∀ (i : Nat) (p : PV) (v : Value), vs[i]? = some p → us[i]? = some v → Rep c.M w m ρ p v := by
        cases hx with
        | im hi => cases hi with
          | tup hl h1 => exact ⟨_, rfl, hl, fun i p v hp hv => .im (h1 i p v hp hv)⟩
        | tup hl h1 => exact ⟨_, rfl, hl, h1⟩
      obtain ⟨us, rfl, hl, h1⟩ := key
      obtain ⟨v, hv⟩ := val_at hl hp
      exact q_value (v := v) (by simp [execOp, hq, Instr.extract, hv]) (h.then hd (h1 i p _ hp hv) hs)
theorem equalIn_nil {t e : TypeId} (he : P.underlying t = some (.slice e)) (d : Nat) (A : Option Addr) (n cc : Nat) (w : World) : (Op.equalIn (d + 1) t (.slice A n cc) (.slice none 0 0)).run P w = .ok A.isNone w := by
  cases A <;> simp [Op.equalIn, run_underlying he]
theorem nil_run {t : TypeId} (ht : sliceT P t = true) {A : Option Addr} {n cc : Nat} (ox : Operand) (neg : Bool) (w : World) : (do eqGuard (if neg = true then .neq else .eql) t ox (.const (.slice none 0 0)) (.slice A n cc) (.slice none 0 0); binOp (if neg = true then .neq else .eql) t (.slice A n cc) (.slice none 0 0) : Sem Value).run P w = .ok (.bool (if neg = true then !A.isNone else A.isNone)) w := by
  obtain ⟨e, he⟩ := sliceT_eq ht
  have := equalIn_nil he 9999 A n cc w
  rw [show (9999 + 1 : Nat) = 10000 from rfl] at this
  cases neg
  · simp only [Bool.false_eq_true, if_false, eqGuard, binOp, Op.equal, Op.maxDepth, Sem.run_bind]; simp [this]
  · simp only [if_true, eqGuard, binOp, Op.equal, Op.maxDepth, Sem.run_bind]; simp [this]
theorem Rep.agg_vals {cs : List PV} {v : Value} (h : Rep M w m ρ (.agg cs) v) : ∃ xs : Array Value, v = .agg xs ∧ ∀ (i : Nat) (x : Value), cs[i]? = some (PV.val x) → xs[i]? = some x := by
  cases h with
  | im h =>
    cases h with
    | @agg _ vs hl hi _ =>
      refine ⟨vs, rfl, fun i x hx => ?_⟩
      have hlt : i < vs.size := by rw [← hl]; exact lt_of_get hx
      have hv : vs[i]? = some vs[i] := Array.getElem?_eq_getElem hlt
      rw [hv]
      have := hi i _ _ hx hv
      cases this; rfl
  | @agg _ vs hl hi _ =>
    refine ⟨vs, rfl, fun i x hx => ?_⟩
    have hlt : i < vs.size := by rw [← hl]; exact lt_of_get hx
    have hv : vs[i]? = some vs[i] := Array.getElem?_eq_getElem hlt
    rw [hv, (hi i _ _ hx hv).val_eq]
theorem eqGo_run {P : Program} {xs ys : Array Value} {cs ds : List PV} (hx : ∀ (i : Nat) (x : Value), cs[i]? = some (PV.val x) → xs[i]? = some x) (hy : ∀ (i : Nat) (x : Value), ds[i]? = some (PV.val x) → ys[i]? = some x) (w : World) (d : Nat) :
    ∀ (fs : List Field) (l : List (Nat × Nat)) (b : Bool), fs.mapM (fun f => if f.name = "_" then none else match P.underlying f.type with
      | some (.int _) => some (f.offset, 0)
      | some .bool => some (f.offset, 1)
      | some .string => some (f.offset, 2)
      | _ => none) = some l → eqGo l cs ds = some b → (Op.eqFields (d + 1) xs ys fs).run P w = .ok b w
  | [], l, b, hl, hb => by
    simp at hl; subst hl
    rw [eqGo] at hb; cases hb
    simp [Op.eqFields]
  | f :: fs, l, b, hl, hb => by
    rw [List.mapM_cons] at hl
    simp only [bind, Option.bind_eq_some_iff] at hl
    obtain ⟨q, hq, l', hl', he⟩ := hl
    cases he
    have key : ∀ (r b' : Bool) (u v : Value), f.name ≠ "_" → P.plainKey f.type = true → xs[f.offset]? = some u → ys[f.offset]? = some v → (Op.equalIn (d + 1) f.type u v).run P w = .ok r w → eqGo l' cs ds = some b' → b = (r && b') → (Op.eqFields (d + 1) xs ys (f :: fs)).run P w = .ok b w := fun r b' u v hn hp hu hv hr hb' he => by
      have ih := eqGo_run hx hy w d fs l' b' hl' hb'
      simp only [Op.eqFields, hn, ne_eq, not_false_eq_true, if_true, Sem.run_bind, run_part_plain w hp hu, run_part_plain w hp hv, hr, Result.andThen_ok]
      subst he
      cases r
      · simp
      · simpa using ih
    split at hq
    · cases hq
    · rename_i hn
      split at hq
      · rename_i k hu
        cases hq
        rw [eqGo] at hb
        split at hb
        · rename_i ka a kb b' e1 e2
          split at hb
          · rename_i hk
            subst hk
            obtain ⟨b', hb', rfl⟩ := Option.map_eq_some_iff.1 hb
            exact key _ b' _ _ hn (by simp [Program.plainKey, hu]) (hx _ _ e1) (hy _ _ e2) (run_equalIn_int w d _ _ _ _ _ hu) hb' rfl
          · cases hb
        · cases hb
      · rename_i hu
        cases hq
        rw [eqGo] at hb
        split at hb
        · rename_i a b' e1 e2
          obtain ⟨b', hb', rfl⟩ := Option.map_eq_some_iff.1 hb
          exact key _ b' _ _ hn (by simp [Program.plainKey, hu]) (hx _ _ e1) (hy _ _ e2) (run_equalIn_bool w d _ _ _ hu) hb' rfl
        · cases hb
      · rename_i hu
        cases hq
        rw [eqGo] at hb
        split at hb
        · rename_i a b' e1 e2
          obtain ⟨b', hb', rfl⟩ := Option.map_eq_some_iff.1 hb
          exact key _ b' _ _ hn (by simp [Program.plainKey, hu]) (hx _ _ e1) (hy _ _ e2) (run_equalIn_string w d _ _ _ hu) hb' rfl
        · cases hb
      · cases hq
theorem eqShape_run {P : Program} {t : TypeId} {l : List (Nat × Nat)} {b : Bool} {xs ys : Array Value} {cs ds : List PV} (hl : eqShape P t = some l) (hb : eqGo l cs ds = some b) (hx : ∀ (i : Nat) (x : Value), cs[i]? = some (PV.val x) → xs[i]? = some x) (hy : ∀ (i : Nat) (x : Value), ds[i]? = some (PV.val x) → ys[i]? = some x) (w : World) (x y : Operand) :
    (∀ op, (eqGuard op t x y (.agg xs) (.agg ys)).run P w = .ok () w) ∧ (Op.equalIn 10000 t (.agg xs) (.agg ys)).run P w = .ok b w := by
  unfold eqShape at hl
  split at hl
  · rename_i fs hu
    split at hl
    · rename_i hc
      have hf : P.fieldsOf t = fs := by unfold Program.fieldsOf; rw [hu]
      refine ⟨fun op => run_eqGuard_agg w op t x y xs ys hc.2, ?_⟩
      rw [run_equalIn_struct w 9999 t xs ys (by rw [hf]; exact hu) hc.1, hf]
      exact eqGo_run hx hy w 9998 fs.toList l b hl hb
    · cases hl
  · cases hl
theorem s_binOp (h : Inv c tm m ρ a w) (hd : ∀ t, d = some t → t < c.N) {op : BinOp} {t t' : TypeId} {x y : Operand} (hs : step c.P np lent kp tm m d ty k (.binOp op t x y t')) : Quiet c.P ⟨d, .binOp op t x y t', ty, pos, af, g⟩ a w (Then c k) := by
  unfold step at hs
  split at hs
  any_goals (rename_i heq; cases heq; done)
  · rename_i heq
    cases heq
    obtain ⟨ht, hs⟩ := hs
    · obtain ⟨es, hs, A, cc, sz, hv, _, _, _, hA, _⟩ := row1_sound h.blk (h.ev _) hs
      have hnil : A.isNone = true → es = [] := fun e => List.eq_nil_of_length_eq_zero (hA (by simpa using e))
      have hev : a.eval (.const (.slice none 0 0)) = .slice none 0 0 := rfl
      simp only [nilQ] at hs
      split at hs
      · have := nil_run (P := c.P) ht (A := A) (n := es.length) (cc := cc) x false w
        exact q_value (v := .bool A.isNone) (by simp only [execOp, hv, hev, Sem.run_bind] at this ⊢; simp only [Bool.false_eq_true, if_false] at this; rw [this]; rfl) (h.then hd (.im (.val rfl)) (hs _ hnil))
      · have := nil_run (P := c.P) ht (A := A) (n := es.length) (cc := cc) x true w
        exact q_value (v := .bool !A.isNone) (by simp only [execOp, hv, hev, Sem.run_bind] at this ⊢; simp only [if_true] at this; rw [this]; rfl) (h.then hd (.im (.val rfl)) (hs _ hnil))
      · cases hs
  · rename_i heq
    cases heq
    rcases onValA_e hs with ⟨va, hx, hs⟩ | ⟨cs, hx, hs⟩
    · obtain ⟨vb, hy, hs⟩ := onVal_e hs
      obtain ⟨v, hv, hs⟩ := onS_e (learn_e hs (hx ▸ h.ev x : Rep c.M w m ρ (.val va) (a.eval x)).val_ok (hy ▸ h.ev y : Rep c.M w m ρ (.val vb) (a.eval y)).val_ok)
      have hok := binV_ok hv (hx ▸ h.ev x : Rep c.M w m ρ (.val va) (a.eval x)).val_ok (hy ▸ h.ev y : Rep c.M w m ρ (.val vb) (a.eval y)).val_ok
      have hxv := (hx ▸ h.ev x : Rep c.M w m ρ (.val va) (a.eval x)).val_eq
      have hyv := (hy ▸ h.ev y : Rep c.M w m ρ (.val vb) (a.eval y)).val_eq
      have := binV_run (P := c.P) hv x y w
      exact q_value (v := v) (by simp only [execOp, hxv, hyv, Sem.run_bind] at this ⊢; rw [this]; rfl) (h.then hd (.im (.val hok)) hs)
    · obtain ⟨ds, hy, hs⟩ := onAgg_e hs
      obtain ⟨l, hl, hs⟩ := onS_e hs
      obtain ⟨b, hb, hs⟩ := onS_e hs
      obtain ⟨xs, hxe, hxs⟩ := (hx ▸ h.ev x : Rep c.M w m ρ (.agg cs) (a.eval x)).agg_vals
      obtain ⟨ys, hye, hys⟩ := (hy ▸ h.ev y : Rep c.M w m ρ (.agg ds) (a.eval y)).agg_vals
      obtain ⟨hg, hr⟩ := eqShape_run hl hb hxs hys w x y
      split at hs
      · exact q_value (v := .bool b) (by simp only [execOp, hxe, hye, Sem.run_bind, hg .eql, Result.andThen_ok, run_eql_struct, hr]; rfl) (h.then hd (.im (.val rfl)) hs)
      · exact q_value (v := .bool !b) (by simp only [execOp, hxe, hye, Sem.run_bind, hg .neq, Result.andThen_ok, run_neq_struct, hr]; rfl) (h.then hd (.im (.val rfl)) hs)
      · cases hs
  · cases hs
theorem s_unOp (h : Inv c tm m ρ a w) (hd : ∀ t, d = some t → t < c.N) {op : UnOp} {t : TypeId} {x : Operand} (hs : step c.P np lent kp tm m d ty k (.unOp op t x)) : Quiet c.P ⟨d, .unOp op t x, ty, pos, af, g⟩ a w (Then c k) := by
  simp only [step] at hs
  obtain ⟨va, hx, hs⟩ := onVal_e hs
  obtain ⟨v, hv, hs⟩ := onS_e (learn1_e hs (hx ▸ h.ev x : Rep c.M w m ρ (.val va) (a.eval x)).val_ok)
  have hxv := (hx ▸ h.ev x : Rep c.M w m ρ (.val va) (a.eval x)).val_eq
  exact q_value (v := v) (by simp [execOp, hxv, unV_run hv]) (h.then hd (.im (.val (unV_ok hv))) hs)
theorem s_convert (h : Inv c tm m ρ a w) (hd : ∀ t, d = some t → t < c.N) {s t : TypeId} {x : Operand} (hs : step c.P np lent kp tm m d ty k (.convert s t x)) : Quiet c.P ⟨d, .convert s t x, ty, pos, af, g⟩ a w (Then c k) := by
  simp only [step] at hs
  obtain ⟨kd0, n, hx, hs⟩ := onInt_e hs
  obtain ⟨kd, hk, hs⟩ := onS_e (learn1_e hs (hx ▸ h.ev x : Rep c.M w m ρ (.val (.int kd0 n)) (a.eval x)).val_ok)
  · have hxv := (hx ▸ h.ev x : Rep c.M w m ρ (.val (.int kd0 n)) (a.eval x)).val_eq
    unfold intT at hk
    split at hk
    · rename_i us hus hut
      cases hk
      refine q_value (v := .int kd (kd.wrap n)) ?_ (h.then hd (.im (.val (okB_wrap kd n))) hs)
      simp [execOp, convert, run_underlying hus, run_underlying hut, hxv, Conv.intToInt]
    · cases hk
theorem s_makeFunc (h : Inv c tm m ρ a w) (hd : ∀ t, d = some t → t < c.N) {f : Fn} {first caps : Array Operand} (hs : step c.P np lent kp tm m d ty k (.makeFunc f first caps)) : Quiet c.P ⟨d, .makeFunc f first caps, ty, pos, af, g⟩ a w (Then c k) := by
  unfold step at hs
  split at hs
  any_goals (rename_i heq; cases heq; done)
  · rename_i heq
    cases heq
    obtain ⟨hf, hs⟩ := hs
    · have hfirst : first = #[] := by rw [← Array.toList_inj]; exact hf
      subst hfirst
      rename_i f
      refine q_value (v := .func (.func f) #[] (caps.map a.eval)) (by simp [execOp, Instr.makeFunc]) (h.then hd (.fn (by simp) (fun i p v hp hv => ?_)) hs)
      rw [List.getElem?_map] at hp
      obtain ⟨x, hx, rfl⟩ := Option.map_eq_some_iff.1 hp
      rw [Array.getElem?_toList] at hx
      rw [Array.getElem?_map, hx] at hv
      cases hv
      exact h.ev x
  · cases hs
theorem okB_nat (n : Nat) (h : n ≤ 9223372036854775807) : okB (.int .i64 n) = true := by
  refine decide_eq_true ?_
  simp [IntKind.min, IntKind.max, IntKind.bits, IntKind.signed]; omega
theorem strT_eq {t : TypeId} (h : strT P t = true) : P.underlying t = some .string := by
  unfold strT at h
  split at h
  · assumption
  · cases h
theorem s_len (h : Inv c tm m ρ a w) (hd : ∀ t, d = some t → t < c.N) {args : Array Operand} {ts : Array TypeId} (hs : step c.P np lent kp tm m d ty k (.call { callee := .builtin .len, args := args, argTypes := ts })) : Quiet c.P ⟨d, .call { callee := .builtin .len, args := args, argTypes := ts }, ty, pos, af, g⟩ a w (Then c k) := by
  simp only [step] at hs
  obtain ⟨x, hx, hs1⟩ := onOne_e hs
  obtain ⟨t, ht, hs2⟩ := onOne_e hs1
  clear hs hs1
  rename _ => hs
  have hargs : args = #[x] := by rw [← Array.toList_inj]; exact hx
  have hts : ts = #[t] := by rw [← Array.toList_inj]; exact ht
  subst hargs
  subst hts
  unfold ifB at hs
  split at hs
  · rename_i hst
    obtain ⟨s, hxs, hs⟩ := onStr_e hs
    have hv := (hxs ▸ h.ev x : Rep c.M w m ρ (.val (.string s)) (a.eval x)).val_eq
    have hok : s.size ≤ 140737488355328 := of_decide_eq_true (hxs ▸ h.ev x : Rep c.M w m ρ (.val (.string s)) (a.eval x)).val_ok
    exact q_value (v := .int .i64 s.size) (by simp [execOp, resolve, invoke, builtin, Builtin.len_, hv, run_underlying (strT_eq hst), goInt]) (h.then hd (.im (.val (okB_nat s.size (by omega)))) (hs hok))
  · obtain ⟨e, he, hs⟩ := onS_e hs
    obtain ⟨es, hk, A, cc, sz, hv, hmx, _⟩ := row1_sound h.blk (h.ev x) hs
    refine q_value (v := .int .i64 es.length) ?_ (h.then hd (.im (.val (okB_nat es.length hmx))) (hk hmx))
    simp [execOp, resolve, invoke, builtin, Builtin.len_, hv, run_underlying (elemOf_eq he), goInt]
theorem s_min (h : Inv c tm m ρ a w) (hd : ∀ t, d = some t → t < c.N) {args : Array Operand} {ts : Array TypeId} (hs : step c.P np lent kp tm m d ty k (.call { callee := .builtin .min, args := args, argTypes := ts })) : Quiet c.P ⟨d, .call { callee := .builtin .min, args := args, argTypes := ts }, ty, pos, af, g⟩ a w (Then c k) := by
  simp only [step] at hs
  obtain ⟨x, y, hx, hs⟩ := onTwo_e hs
  have hargs : args = #[x, y] := by rw [← Array.toList_inj]; exact hx
  subst hargs
  obtain ⟨kd, n, hx, hs⟩ := onInt_e hs
  obtain ⟨kd', n', hy, rfl, hs⟩ := onInt_e hs
  have hxv := (hx ▸ h.ev x : Rep c.M w m ρ (.val (.int kd n)) (a.eval x)).val_eq
  have hyv := (hy ▸ h.ev y : Rep c.M w m ρ (.val (.int kd n')) (a.eval y)).val_eq
  have hxo := (hx ▸ h.ev x : Rep c.M w m ρ (.val (.int kd n)) (a.eval x)).val_ok
  have hyo := (hy ▸ h.ev y : Rep c.M w m ρ (.val (.int kd n')) (a.eval y)).val_ok
  refine q_value (v := .int kd (if n' < n then n' else n)) ?_ (h.then hd (.im (.val (by split <;> assumption))) hs)
  simp [execOp, resolve, invoke, builtin, Builtin.min_, Builtin.min2, hxv, hyv]
end
end Go.V
