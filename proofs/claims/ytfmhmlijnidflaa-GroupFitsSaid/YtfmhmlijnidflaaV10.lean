import Derived.Test.YtfmhmlijnidflaaV9c
import Derived.Orders
import Derived.Scope
set_option linter.unusedVariables false
set_option linter.unusedSimpArgs false
namespace Go.V
open Go
def okOps (N : Nat) : List Oper → Bool
  | [] => true
  | o :: l => (match o.dst with | some t => decide (t < N) | none => true) && okOps N l
def drawOk (ops : Array Oper) (t : Option (Tr × List Nat)) : Bool := Region.noSelect ops && cover .any ops ops.size ((t.map (·.1)).getD (chainT ops.size 0)) (Array.replicate ops.size false)
def okCode (N : Nat) (kd : Nat → Bool) (tr : Nat → Option (Tr × List Nat)) : Code → Bool
  | .region id ops draw => okOps N ops.toList && (!draw || (ops.toList.all (fun o => match o.dst with | some d => kd d | none => true) && drawOk ops (tr id)))
  | .seq a b => okCode N kd tr a && okCode N kd tr b
  | .cond _ a b => okCode N kd tr a && okCode N kd tr b
  | .block _ a => okCode N kd tr a
  | .loop a => okCode N kd tr a
  | .scope a => okCode N kd tr a
  | _ => true
section
variable {c : Cx} {P : Program} {M M' M2 : Nat → Prop} {w0 w w' : World} {S : Nat → Prop} {N : Nat} {tm : Tm} {m m' m2 : Mem} {ρ ρ' ρ2 : Nat → Value} {a : Act}
variable {lent : FuncId → Bool} {kp : Value → Tm → Mem → Prop} {d : Option Tmp} {ty : TypeId} {pos : String} {af : Array Edge} {g : Option (Nat × Bool)} {k : Tm → Mem → Prop} {Q : Exit → Act → World → Prop}
theorem step_sound (hP : ∀ v a w, Then c (kp v) a w → Q (.panic [{ v := v, recovered := false }]) a w) (h : Inv c tm m ρ a w) (hd : ∀ t, d = some t → t < c.N) {op : Op} (hs : step c.P c.np lent kp tm m d ty k op) : Oper.wp c.P ⟨d, op, ty, pos, af, g⟩ a w (Then c k) Q := by
  have hs0 := hs
  unfold step at hs
  split at hs
  · exact (s_move h hd hs0).wp
  · exact (s_assign h hd hs0).wp
  · exact (s_assign h hd hs0).wp
  · exact (s_pick h hd hs0).wp
  · exact s_box h hd hs0
  · exact s_alloc h hd hs0
  · exact (s_nilCheck h hd hs0).wp
  · exact (s_load h hd hs0).wp
  · exact s_store h hd hs0
  · exact (s_fieldAddr h hd hs0).wp
  · exact (s_indexAddr h hd hs0).wp
  · exact (s_extract h hd hs0).wp
  · exact (s_binOp h hd hs0).wp
  · exact (s_binOp h hd hs0).wp
  · exact (s_unOp h hd hs0).wp
  · exact (s_convert h hd hs0).wp
  · exact (s_makeFunc h hd hs0).wp
  · exact s_makeSlice h hd hs0
  · exact (s_slice h hd hs0).wp
  · exact (s_slice3 h hd hs0).wp
  · exact s_clear h hd hs0
  · exact (s_build h hd hs0).wp
  · exact s_buildSlice h hd hs0
  · exact (s_len h hd hs0).wp
  · exact (s_min h hd hs0).wp
  · exact (s_cap h hd hs0).wp
  · exact s_append h hd hs0
  · obtain ⟨g, caps, he, hs⟩ := onFn_e hs
    unfold ifB at hs
    split at hs
    · exact s_callM h hd he hs
    · exact s_callV hP h hd he hs
  · cases hs
theorem quiet_sound (h : Inv c tm m ρ a w) (hd : ∀ t, d = some t → t < c.N) {op : Op} (hq : quietOp op = true) (hs : step c.P c.np lent kp tm m d ty k op) : Quiet c.P ⟨d, op, ty, pos, af, g⟩ a w (Then c k) := by
  unfold quietOp at hq
  split at hq
  · exact s_move h hd hs
  · exact s_pick h hd hs
  · exact s_load h hd hs
  · exact s_fieldAddr h hd hs
  · exact s_indexAddr h hd hs
  · exact s_extract h hd hs
  · exact s_binOp h hd hs
  · exact s_unOp h hd hs
  · exact s_assign h hd hs
  · exact s_build h hd hs
  · exact s_nilCheck h hd hs
  · exact s_slice h hd hs
  · exact s_convert h hd hs
  · exact s_makeFunc h hd hs
  · exact s_len h hd hs
  · cases hq
theorem getD_get {t : Nat} {v : Value} (h : a.tmps.getD t undef = v) (hv : v ≠ undef) : a.tmps[t]? = some v := by
  rw [Array.getD_eq_getD_getElem?] at h
  cases hx : a.tmps[t]? with
  | none => rw [hx] at h; exact absurd h.symm hv
  | some y => rw [hx] at h; rw [← h]; rfl
theorem dstAt_eq : ∀ (l : List Oper) (j : Nat), dstAt l j = (l[j]?).bind (·.dst)
  | [], j => by simp [dstAt]
  | o :: l, 0 => by simp [dstAt]
  | o :: l, j + 1 => by simp [dstAt, dstAt_eq l j]
theorem told_sound (h : Inv c tm m ρ a w) {ops : Array Oper} {o : Oper} {j : Nat} {want b : Bool} (hg : o.guard = some (j, want)) (ht : told ops tm j want = some b) : Region.wanted o (yielded ops a.tmps) = b := by
  unfold told at ht
  rw [dstAt_eq, Array.getElem?_toList] at ht
  unfold toldAt at ht
  split at ht
  · rename_i t hd
    have hv := h.tm t
    unfold boolOf at ht
    split at ht
    · rename_i b' hg'
      cases ht
      rw [hg'] at hv
      have := getD_get hv.val_eq (by simp [undef])
      simp [Region.wanted, hg, yielded, hd, this]
    · rename_i l hg'
      cases ht
      rw [hg'] at hv
      have := hv.val_eq
      rw [Array.getD_eq_getD_getElem?] at this
      cases hx : a.tmps[t]? with
      | none => simp [Region.wanted, hg, yielded, hd, hx]
      | some y => rw [hx] at this; simp at this; subst this; simp [Region.wanted, hg, yielded, hd, hx]
    · cases ht
  · cases ht
theorem execOps_sound {ops : Array Oper} {k : Tm → Mem → Prop} (hP : ∀ v a w, Then c (kp v) a w → Q (.panic [{ v := v, recovered := false }]) a w) (hQ : ∀ a w, Then c k a w → Q .normal a w) : ∀ (l : List Oper) (tm : Tm) (m : Mem) (ρ : Nat → Value) (a : Act) (w : World), okOps c.N l = true → execOps c.P c.np lent kp ops k l tm m → Inv c tm m ρ a w → wpList c.P ops Q l a w
  | [], tm, m, ρ, a, w, _, hs, h => hQ a w ⟨tm, m, ρ, hs, h⟩
  | o :: l, tm, m, ρ, a, w, hN, hs, h => by
    rw [okOps, Bool.and_eq_true] at hN
    have hd : ∀ t, o.dst = some t → t < c.N := by
      intro t ht
      have := hN.1
      rw [ht] at this
      exact of_decide_eq_true this
    have next : ∀ a w, Then c (execOps c.P c.np lent kp ops k l) a w → wpList c.P ops Q l a w := fun a w ⟨tm, m, ρ, hs, h⟩ => execOps_sound hP hQ l tm m ρ a w hN.2 hs h
    have run : step c.P c.np lent kp tm m o.dst o.type (execOps c.P c.np lent kp ops k l) o.op → o.wp c.P a w (wpList c.P ops Q l) Q := fun hst => by
      have := step_sound (Q := Q) hP (pos := o.pos) (af := o.after) (g := o.guard) h hd hst
      exact Oper.wp_mono next this
    rw [execOps] at hs
    simp only [ifB] at hs
    unfold wpList
    split at hs
    · rename_i hg
      rw [if_pos (by simp [Region.wanted, hg])]
      exact .inl (run hs)
    · rename_i j want hg
      obtain ⟨b, hb, hs⟩ := onS_e hs
      · have hy := told_sound h hg hb
        split at hs
        · rename_i e
          rw [if_pos (by rw [hy]; exact e)]
          exact .inl (run hs)
        · rename_i e
          rw [if_neg (by rw [hy]; exact e)]
          exact execOps_sound hP hQ l _ m ρ _ w hN.2 hs (h.put hd (.im (.val okB_undef)))
theorem Inv.drew (h : Inv c tm m ρ a w) : Inv c tm m ρ a { w with drawn := w.drawn + 1 } := by
  have hmv : Mv (Own m ρ) w { w with drawn := w.drawn + 1 } := ⟨Nat.le_refl _, fun _ _ _ => rfl⟩
  have hr : ∀ b e es, m[b]? = some (.row e es) → ρ b = ρ b ∧ ∃ e' es', m[b]? = some (.row e' es') ∧ es'.length = es.length ∧ ∀ sz, (∀ x ∈ es, x.length = sz) → ∀ x ∈ es', x.length = sz := fun b e es hb => ⟨rfl, e, es, hb, rfl, fun _ h => h⟩
  have hv : ∀ b cs, m[b]? = some (.var cs) → ρ b = ρ b ∧ ∃ cs', m[b]? = some (.var cs') := fun b cs hb => ⟨rfl, cs, hb⟩
  exact ⟨h.sz, h.df, fun t => (h.tm t).move hmv (fun _ _ h => h) (fun _ _ h => h) hr hv, fun b x hx => (h.blk b x hx).move (fun k _ hk => rfl) hmv (fun _ _ h => h) (fun _ _ h => h) hr hv, h.sep, h.new,
    h.fr.step rfl rfl rfl (Nat.le_refl _) (fun _ _ _ => rfl), h.old, h.dis, h.ft⟩
def kdOps (kd : Nat → Bool) (ops : Array Oper) : Bool := ops.toList.all fun o => match o.dst with | some d => kd d | none => true
theorem kdOps_get {kd : Nat → Bool} {ops : Array Oper} {i d : Nat} {o : Oper} (h : kdOps kd ops = true) (ho : ops[i]? = some o) (hd : o.dst = some d) : kd d = true := by
  have := List.all_eq_true.1 h o (by rw [Array.mem_toList_iff]; exact Array.mem_of_getElem? ho)
  rw [hd] at this; exact this
theorem stepO_sound (hP : ∀ v a w, Then c (kp v) a w → Q (.panic [{ v := v, recovered := false }]) a w) {ops : Array Oper} {K : Tm → Mem → Prop} {K' : Act → World → Prop} {n : Nat} {o : Oper} (ho : ops[n]? = some o) (hN : okOps c.N [o] = true)
    (next : ∀ a w, Then c K a w → K' a w) (hs : stepO c.P c.np lent kp ops K o tm m) (h : Inv c tm m ρ a w) : wpOpS c.P ops Q n K' a w := by
  rw [okOps, Bool.and_eq_true] at hN
  have hd : ∀ t, o.dst = some t → t < c.N := by
    intro t ht
    have := hN.1
    rw [ht] at this
    exact of_decide_eq_true this
  unfold wpOpS qOp wpOp
  simp only [ho]
  unfold stepO at hs
  simp only [ifB] at hs
  have qtq : qt ops n = quietOp o.op := by unfold qt; rw [ho]
  rw [qtq]
  have run : Region.wanted o (yielded ops a.tmps) = true → step c.P c.np lent kp tm m o.dst o.type K o.op → if quietOp o.op = true then ∃ v, YV c.P ops w o v a ∧ K' (a.put o.dst v) w else if Region.wanted o (yielded ops a.tmps) = true then o.wp c.P a w K' Q ∨ o.asks c.P a w ∧ LetsOut Q else K' (a.put o.dst undef) w := fun hw hst => by
    split
    · rename_i hq
      obtain ⟨v, h1, h2⟩ := quiet_sound (pos := o.pos) (af := o.after) (g := o.guard) h hd hq hst
      exact ⟨v, .inl ⟨hw, h1⟩, next _ _ h2⟩
    · try rw [if_pos hw]
      have := step_sound (Q := Q) hP (pos := o.pos) (af := o.after) (g := o.guard) h hd hst
      exact .inl (Oper.wp_mono next this)
  split at hs
  · rename_i hg
    exact run (by simp [Region.wanted, hg]) hs
  · rename_i j want hg
    obtain ⟨b, hb, hs⟩ := onS_e hs
    have hy := told_sound h hg hb
    split at hs
    · rename_i e
      exact run (by rw [hy]; exact e) hs
    · rename_i e
      have hw : Region.wanted o (yielded ops a.tmps) = false := by rw [hy]; simpa using e
      have hn := next _ _ ⟨_, m, ρ, hs, h.put hd (.im (.val okB_undef))⟩
      split
      · exact ⟨undef, .inr ⟨hw, rfl⟩, hn⟩
      · rw [if_neg (by rw [hw]; exact Bool.false_ne_true)]; exact hn
theorem okOps_get {N : Nat} {o : Oper} : ∀ (l : List Oper) (i : Nat), okOps N l = true → l[i]? = some o → okOps N [o] = true := by
  intro l
  induction l with
  | nil => intro i h ho; rw [List.getElem?_nil] at ho; cases ho
  | cons p l ih =>
    intro i h ho
    rw [okOps, Bool.and_eq_true] at h
    cases i with
    | zero =>
      rw [List.getElem?_cons_zero] at ho; cases ho
      rw [okOps, Bool.and_eq_true]; exact ⟨h.1, rfl⟩
    | succ i => rw [List.getElem?_cons_succ] at ho; exact ih i h.2 ho
theorem execT_sound {ops : Array Oper} {k : Tm → Mem → Prop} (hP : ∀ v a w, Then c (kp v) a w → Q (.panic [{ v := v, recovered := false }]) a w) (hQ : ∀ a w, Then c k a w → Q .normal a w) (hN : okOps c.N ops.toList = true) : ∀ (T : Tr) (tm : Tm) (m : Mem) (ρ : Nat → Value) (a : Act) (w : World), execT c.P c.np lent kp ops ops.toList k T tm m → Inv c tm m ρ a w → wpT c.P ops Q T a w
  | .nil, tm, m, ρ, a, w, hs, h => hQ a w ⟨tm, m, ρ, hs, h⟩
  | .alt s t, tm, m, ρ, a, w, hs, h => ⟨execT_sound hP hQ hN s tm m ρ a w hs.1 h, execT_sound hP hQ hN t tm m ρ a w hs.2 h⟩
  | .one i t, tm, m, ρ, a, w, hs, h => by
    rw [execT] at hs
    obtain ⟨o, ho, hs⟩ := onS_e hs
    exact stepO_sound hP (by rw [← Array.getElem?_toList]; exact ho) (okOps_get _ _ hN ho) (fun a w ⟨tm, m, ρ, h1, h2⟩ => execT_sound hP hQ hN t tm m ρ a w h1 h2) hs h
theorem chain_sound {ops : Array Oper} {k : Tm → Mem → Prop} (hP : ∀ v a w, Then c (kp v) a w → Q (.panic [{ v := v, recovered := false }]) a w) (hQ : ∀ a w, Then c k a w → Q .normal a w) (hN : okOps c.N ops.toList = true) : ∀ (f i : Nat) (l : List Oper) (tm : Tm) (m : Mem) (ρ : Nat → Value) (a : Act) (w : World), ops.toList.drop i = l → l.length = f → execOps c.P c.np lent kp ops k l tm m → Inv c tm m ρ a w → wpT c.P ops Q (chainT f i) a w
  | 0, i, [], tm, m, ρ, a, w, _, _, hs, h => hQ a w ⟨tm, m, ρ, hs, h⟩
  | f + 1, i, o :: l, tm, m, ρ, a, w, hl, hf, hs, h => by
    have ho : ops.toList[i]? = some o := by
      have := congrArg (fun l => l[0]?) hl
      simpa [List.getElem?_drop] using this
    have hs' : stepO c.P c.np lent kp ops (execOps c.P c.np lent kp ops k l) o tm m := hs
    exact stepO_sound hP (by rw [← Array.getElem?_toList]; exact ho) (okOps_get _ _ hN ho) (fun a w ⟨tm, m, ρ, h1, h2⟩ => chain_sound hP hQ hN f (i + 1) l tm m ρ a w (by rw [← List.drop_drop, hl]; rfl) (by simpa using hf) h1 h2) hs' h
  | 0, i, o :: l, tm, m, ρ, a, w, _, hf, _, _ => by simp at hf
  | f + 1, i, [], tm, m, ρ, a, w, _, hf, _, _ => by simp at hf
theorem draw_sound (hm : c.P.follows .mixedOrders = true) (hQn : ∀ (d : Nat) (v : Value) ch a w, c.kd d = true → Q (.panic ch) (a.put (some d) v) w → Q (.panic ch) a w) (hP : ∀ v a w, Then c (kp v) a w → Q (.panic [{ v := v, recovered := false }]) a w) {id : Nat} {ops : Array Oper} {k : Tm → Mem → Prop} (hQ : ∀ a w, Then c k a w → Q .normal a w) (hN : okOps c.N ops.toList = true) {t : Option (Tr × List Nat)} (hkd : kdOps c.kd ops = true) (hdr : drawOk ops t = true) (hs : execR c.P c.np lent kp c.n ops k ops.toList tm m t) (h : Inv c tm m ρ a w) : (Code.region id ops true).wp c.P Q a w := by
  rw [drawOk, Bool.and_eq_true] at hdr
  refine wp_region_any hm (anyS_any _ _ _ _ (cover_any hdr.1 (fun i o v ch a w ho hq => ?_) _ _ _ a _ Cl.start hdr.2 ?_))
  · cases hd : o.dst with
    | none => rw [hd] at hq; exact hq
    | some d => rw [hd] at hq; exact hQn d v ch a w (kdOps_get hkd ho hd) hq
  cases t with
  | none => exact chain_sound hP hQ hN _ 0 _ tm m ρ a _ rfl (by simp) hs h.drew
  | some T =>
    obtain ⟨X, hX, hs⟩ := hs
    refine execT_sound (k := fun tm m => head c.n T.2 tm m X) hP (fun a w hT => ?_) hN T.1 tm m ρ a _ hs h.drew
    obtain ⟨tm1, m1, ρ1, h1, h2⟩ := hT
    obtain ⟨tm2, m2, ρ2, h3, h4⟩ := head_sound h2 h1
    exact hQ _ _ ⟨tm2, m2, ρ2, hX _ _ h3, h4⟩
/-- What holds where the code ends, by what follows it. -/
def Post (c : Cx) (K : KF) : Exit → Act → World → Prop
  | .normal => Then c (K .normal)
  | .exit i => Then c (K (.exit i))
  | .ret => Then c (K .ret)
  | .panic ch => fun a w => ∃ v, ch = [{ v := v, recovered := false }] ∧ Then c (K (.pan v)) a w
  | _ => fun _ _ => False
/-- What a panic asks of does not hang on most slots. -/
def PanK (kd : Nat → Bool) (K : KF) : Prop := ∀ v tm m d, kd d = true → K (.pan v) tm m → K (.pan v) (put tm (some d) .any) m
theorem Inv.unput {d : Nat} {v : Value} (h : Inv c tm m ρ (a.put (some d) v) w) : Inv c (V.put tm (some d) .any) m ρ a w := by
  refine ⟨by have := h.sz; simpa [Act.put] using this, h.df, fun t => ?_, h.blk, h.sep, h.new, h.fr, h.old, h.dis, h.ft⟩
  rw [get_put]
  split
  · exact .im .any
  · rename_i hne
    have h1 := h.tm t
    rw [Array.getD_eq_getD_getElem?] at h1 ⊢
    simp only [Act.put] at h1
    rw [Array.getElem?_setIfInBounds_ne hne] at h1
    exact h1
theorem post_unput {K : KF} (hK : PanK c.kd K) (d : Nat) (v : Value) (ch : List PanicEntry) (a : Act) (w : World) (hd : c.kd d = true) (h : Post c K (.panic ch) (a.put (some d) v) w) : Post c K (.panic ch) a w := by
  obtain ⟨x, rfl, tm, m, ρ, h1, h2⟩ := h
  exact ⟨x, rfl, _, _, _, hK x tm m d hd h1, h2.unput⟩
theorem post_leave {id : Nat} {K : KF} : ∀ e a w, Post c (leave id K) e a w → Exit.inBlock id (Post c K) e a w
  | .normal, a, w, h => h
  | .ret, a, w, h => h
  | .exit i, a, w, h => by
    obtain ⟨tm, m, ρ, h1, h2⟩ := h
    rw [Exit.inBlock]
    rw [leave] at h1
    split
    · rename_i e; rw [if_pos e] at h1; exact ⟨tm, m, ρ, h1, h2⟩
    · rename_i e; rw [if_neg e] at h1; exact ⟨tm, m, ρ, h1, h2⟩
  | .goto _, a, w, h => h.elim
  | .panic _, a, w, h => h
  | .outgrown, a, w, h => h.elim
theorem post_scope {K : KF} : ∀ e a w, Post c K e a w → Exit.noGoto (Post c K) e a w
  | .normal, a, w, h => h
  | .ret, a, w, h => h
  | .exit i, a, w, h => h
  | .goto _, a, w, h => h.elim
  | .panic _, a, w, h => h
  | .outgrown, a, w, h => h.elim
variable {live : Nat → List Nat} {tr : Nat → Option (Tr × List Nat)}
theorem loop_sound {co : Code} (hc : ∀ (K : KF) (tm : Tm) (m : Mem) (ρ : Nat → Value) (a : Act) (w : World), PanK c.kd K → execC c.P c.np lent c.n live tr co K tm m → Inv c tm m ρ a w → co.wp c.P (Post c K) a w) {lv : List Nat} {K : KF} (hK : PanK c.kd K) :
    ∀ (tm : Tm) (m : Mem), LoopP c.n (execC c.P c.np lent c.n live tr co) lv K tm m → ∀ (ρ : Nat → Value) (a : Act) (w : World), Inv c tm m ρ a w → ∀ (b : Frame) (kk : List Item) (cs : List Frame),
      ∃ e a' w', Post c K e a' w' ∧ Arrives c.P (lone (b.at a (.code co :: .inLoop co :: kk)) cs w) b kk cs e a' w' := by
  intro tm m hl
  induction hl with
  | mk X hX hb ih =>
    intro ρ a w h b kk cs
    obtain ⟨e, a₁, w₁, hq, harr⟩ := hc (fun e tm' m' => match e with | .normal => head c.n lv tm' m' X | e => K e tm' m') _ _ ρ a w (fun v tm m d hd h => hK v tm m d hd h) hb h b (.inLoop co :: kk) cs
    cases e with
    | normal =>
      obtain ⟨tm1, m1, ρ1, h1, h2⟩ := hq
      obtain ⟨tm2, m2, ρ2, h3, h4⟩ := head_sound h2 h1
      obtain ⟨e₂, a₂, w₂, hq₂, harr₂⟩ := ih tm2 m2 h3 ρ2 a₁ w₁ h4 b kk cs
      exact ⟨e₂, a₂, w₂, hq₂, .of_steps (Steps.trans harr (.one step_inLoop)) harr₂⟩
    | exit id => exact ⟨.exit id, a₁, w₁, hq, .pass (x := .inLoop co) rfl (fun _ _ => .inl (by simp)) harr⟩
    | ret => exact ⟨.ret, a₁, w₁, hq, .pass (x := .inLoop co) rfl (fun _ _ => .inl (by simp)) harr⟩
    | goto l => exact hq.elim
    | panic ch => exact ⟨.panic ch, a₁, w₁, hq, .pass (x := .inLoop co) rfl (fun _ _ => .inl (by simp)) harr⟩
    | outgrown => exact hq.elim
theorem execC_sound' (hm : c.P.follows .mixedOrders = true) : ∀ (co : Code), (∀ (K : KF) (tm : Tm) (m : Mem) (ρ : Nat → Value) (a : Act) (w : World), PanK c.kd K → okCode c.N c.kd tr co = true → execC c.P c.np lent c.n live tr co K tm m → Inv c tm m ρ a w → co.wp c.P (Post c K) a w) ∧
    ∀ c', co = .loop c' → ∀ (K : KF) (tm : Tm) (m : Mem) (ρ : Nat → Value) (a : Act) (w : World), PanK c.kd K → okCode c.N c.kd tr c' = true → execC c.P c.np lent c.n live tr c' K tm m → Inv c tm m ρ a w → c'.wp c.P (Post c K) a w := by
  intro co
  induction co with
  | skip => exact ⟨fun K tm m ρ a w hK hN hs h => Go.wp_skip (show Then c (K .normal) a w from ⟨tm, m, ρ, by simpa only [execC] using hs, h⟩), fun c' e => by cases e⟩
  | label l => exact ⟨fun K tm m ρ a w hK hN hs h => Go.wp_label (show Then c (K .normal) a w from ⟨tm, m, ρ, by simpa only [execC] using hs, h⟩), fun c' e => by cases e⟩
  | region id ops draw =>
    refine ⟨fun K tm m ρ a w hK hN hs h => ?_, fun c' e => by cases e⟩
    rw [okCode, Bool.and_eq_true] at hN
    cases draw with
    | true => 
      have h2 : ((ops.toList.all fun o => match o.dst with | some d => c.kd d | none => true) = true) ∧ drawOk ops (tr id) = true := by simpa using hN.2
      exact draw_sound (k := K .normal) (kp := fun v => K (.pan v)) (Q := Post c K) hm (fun d v ch a w hd h => post_unput hK d v ch a w hd h) (fun v a w h => ⟨v, rfl, h⟩) (fun a w h => h) hN.1 h2.1 h2.2 (by simpa only [execC] using hs) h
    | false =>
      have hs : execOps c.P c.np lent (fun v => K (.pan v)) ops (K .normal) ops.toList tm m := by simpa only [execC] using hs
      exact wp_region_list (execOps_sound (k := K .normal) (kp := fun v => K (.pan v)) (Q := Post c K) (fun v a w h => ⟨v, rfl, h⟩) (fun a w h => h) ops.toList tm m ρ a w hN.1 hs h)
  | seq x y ihx ihy =>
    refine ⟨fun K tm m ρ a w hK hN hs h => ?_, fun c' e => by cases e⟩
    rw [okCode, Bool.and_eq_true] at hN
    simp only [execC] at hs
    refine wp_seq (wp_mono (ihx.1 (andThen (execC c.P c.np lent c.n live tr y K) K) tm m ρ a w (fun v tm m d hd h => hK v tm m d hd h) hN.1 hs h) fun e a w hq => ?_)
    cases e with
    | normal => obtain ⟨tm1, m1, ρ1, h1, h2⟩ := hq; exact ihy.1 _ tm1 m1 ρ1 a w hK hN.2 h1 h2
    | exit id => exact hq
    | ret => exact hq
    | goto l => exact hq.elim
    | panic ch => exact hq
    | outgrown => exact hq.elim
  | cond x0 x y ihx ihy =>
    refine ⟨fun K tm m ρ a w hK hN hs h => ?_, fun c' e => by cases e⟩
    rw [okCode, Bool.and_eq_true] at hN
    simp only [execC, ifB] at hs
    obtain ⟨b, hc, hs⟩ := onBool_e hs
    · have hv := (hc ▸ h.ev x0 : Rep c.M w m ρ (.val (.bool b)) (a.eval x0)).val_eq
      refine wp_cond hv ?_
      split at hs
      · rename_i e; rw [if_pos e]; exact ihx.1 _ tm m ρ a w hK hN.1 hs h
      · rename_i e; rw [if_neg e]; exact ihy.1 _ tm m ρ a w hK hN.2 hs h
  | scope x ih =>
    refine ⟨fun K tm m ρ a w hK hN hs h => ?_, fun c' e => by cases e⟩
    rw [okCode] at hN
    simp only [execC] at hs
    exact wp_scope_straight (wp_mono (ih.1 K tm m ρ a w hK hN hs h) post_scope)
  | block id x ih =>
    refine ⟨fun K tm m ρ a w hK hN hs h => ?_, fun c' e => by cases e⟩
    rw [okCode] at hN
    by_cases hl : ∃ c', x = .loop c'
    · obtain ⟨c', rfl⟩ := hl
      rw [okCode] at hN
      simp only [execC] at hs
      refine wp_block (wp_mono (Q := Post c (leave id K)) ?_ post_leave)
      intro b kk cs
      obtain ⟨tm2, m2, ρ2, h3, h4⟩ := head_sound h hs
      obtain ⟨e, a', w', hq, harr⟩ := loop_sound (K := leave id K) (fun K tm m ρ a w hK hs h => ih.2 c' rfl K tm m ρ a w hK hN hs h) (fun v tm m d hd h => hK v tm m d hd h) _ _ h3 ρ2 a w h4 b kk cs
      exact ⟨e, a', w', hq, .of_steps (.one step_loop) harr⟩
    · have hs' : execC c.P c.np lent c.n live tr x (leave id K) tm m := by
        cases x <;> first | (simp only [execC] at hs; done) | (simp only [execC] at hs ⊢; exact hs) | exact absurd ⟨_, rfl⟩ hl
      exact wp_block (wp_mono (ih.1 (leave id K) tm m ρ a w (fun v tm m d hd h => hK v tm m d hd h) hN hs' h) post_leave)
  | loop x ih => exact ⟨fun K tm m ρ a w hK hN hs h => by simp [execC] at hs, fun c' e => by cases e; exact ih.1⟩
  | exit id => exact ⟨fun K tm m ρ a w hK hN hs h => wp_exit (show Then c (K (.exit id)) a w from ⟨tm, m, ρ, by simpa only [execC] using hs, h⟩), fun c' e => by cases e⟩
  | ret => exact ⟨fun K tm m ρ a w hK hN hs h => wp_ret (show Then c (K .ret) a w from ⟨tm, m, ρ, by simpa only [execC] using hs, h⟩), fun c' e => by cases e⟩
  | _ => exact ⟨fun K tm m ρ a w hK hN hs h => by simp [execC] at hs, fun c' e => by cases e⟩
theorem execC_sound (hm : c.P.follows .mixedOrders = true) {co : Code} {K : KF} (hK : PanK c.kd K) (hN : okCode c.N c.kd tr co = true) (hs : execC c.P c.np lent c.n live tr co K tm m) (h : Inv c tm m ρ a w) : co.wp c.P (Post c K) a w := (execC_sound' hm co).1 K tm m ρ a w hK hN hs h
theorem okOps_mono {n N : Nat} (hn : n ≤ N) : ∀ l : List Oper, okOps n l = true → okOps N l = true
  | [], _ => rfl
  | o :: l, h => by
    rw [okOps, Bool.and_eq_true] at h ⊢
    refine ⟨?_, okOps_mono hn l h.2⟩
    have := h.1
    split at this
    · rename_i t _; have := of_decide_eq_true this; exact decide_eq_true (Nat.lt_of_lt_of_le this hn)
    · rfl
theorem okCode_mono {n N : Nat} {kd : Nat → Bool} {tr : Nat → Option (Tr × List Nat)} (hn : n ≤ N) : ∀ c : Code, okCode n kd tr c = true → okCode N kd tr c = true
  | .region _ ops _, h => by rw [okCode, Bool.and_eq_true] at h ⊢; exact ⟨okOps_mono hn _ h.1, h.2⟩
  | .seq a b, h => by rw [okCode, Bool.and_eq_true] at h ⊢; exact ⟨okCode_mono hn a h.1, okCode_mono hn b h.2⟩
  | .cond _ a b, h => by rw [okCode, Bool.and_eq_true] at h ⊢; exact ⟨okCode_mono hn a h.1, okCode_mono hn b h.2⟩
  | .block _ a, h => by rw [okCode] at h ⊢; exact okCode_mono hn a h
  | .loop a, h => by rw [okCode] at h ⊢; exact okCode_mono hn a h
  | .scope a, h => by rw [okCode] at h ⊢; exact okCode_mono hn a h
  | .skip, _ => rfl
  | .rangeFunc .., _ => rfl
  | .exit _, _ => rfl
  | .label _, _ => rfl
  | .goto _, _ => rfl
  | .ret, _ => rfl
  | .refuse _, _ => rfl
def goodK (kd : Nat → Bool) (tr : Nat → Option (Tr × List Nat)) (fn : Func) : Bool := match fn.body with
  | some c => !(fn.name == "runtime.NumGoroutine") && okCode fn.ntmps kd tr c
  | none => false
def goodT (tr : Nat → Option (Tr × List Nat)) (fn : Func) : Bool := goodK (fun _ => true) tr fn
theorem get_number : ∀ (l : List PV) (k t : Nat), get (number k l) t = if k ≤ t then (l[t - k]?).getD .any else .any
  | [], k, t => by simp [number, get]
  | p :: l, k, t => by
    rw [number, get, get_number l]
    by_cases h : k = t
    · subst h; simp
    · rw [if_neg h]
      by_cases h2 : k ≤ t
      · rw [if_pos (by omega), if_pos h2, show t - k = (t - (k + 1)) + 1 by omega, List.getElem?_cons_succ]
      · rw [if_neg (by omega), if_neg h2]
theorem Inv.start {args : List PV} {vs : Array Value} {np : Nat} {kd : Nat → Bool} (hM : ∀ k, M k → k < w.heap.size) (hmem : MemOk P M w m ρ) (hl : args.length = vs.size) (hr : ∀ (i : Nat) (p : PV) (v : Value), args[i]? = some p → vs[i]? = some v → Rep M w m ρ p v) (n : Nat) :
    Inv ⟨P, M, w, Own m ρ, vs.size + n, m.length, np, m, ρ, [], kd⟩ (number 0 args) m ρ { tmps := vs ++ Array.replicate n undef, defers := [] } w := by
  refine ⟨by simp, rfl, fun t => ?_, hmem.blk, hmem.sep, fun b k hb hk => .inr ⟨b, hb, hk⟩, ⟨rfl, rfl, rfl, Nat.le_refl _, fun _ _ _ => rfl⟩, hM, fun k ⟨b, hb, hk⟩ => hmem.out b k hb hk, Nat.le_refl _, fun b cs _ hm => ⟨rfl, cs, hm⟩, fun b e es _ hm => .inr ⟨fun _ => rfl, e, es, hm⟩, fun b _ hm => hm⟩
  rw [get_number, if_pos (Nat.zero_le _), Nat.sub_zero]
  cases ha : args[t]? with
  | none => exact .im .any
  | some p =>
    have hlt := lt_of_get ha
    have hv : vs[t]? = some (vs[t]'(by omega)) := Array.getElem?_eq_getElem (by omega)
    have : (vs ++ Array.replicate n undef).getD t undef = vs[t]'(by omega) := by
      rw [Array.getD_eq_getD_getElem?, Array.getElem?_append_left (by omega), hv]; rfl
    simp only [this]
    exact hr t p _ ha hv
def resOne (tmps : Array Value) : ResultVar → Sem Value
  | .tmp t => Pure.pure (tmps.getD t undef)
  | .cell x t => do loadVar t (← asAddr (tmps.getD x undef))
theorem resB_sound (h : Inv c tm m ρ a w) : ∀ (rs : List ResultVar) (K : List PV → Prop), resB c.P tm m rs K → ∃ ps vs, K ps ∧ ps.length = vs.length ∧ (rs.mapM (resOne a.tmps)).run c.P w = .ok vs w ∧ ∀ (i : Nat) (p : PV) (v : Value), ps[i]? = some p → vs[i]? = some v → Rep c.M w m ρ p v
  | [], K, hs => ⟨[], [], hs, rfl, by simp, fun i p v hp => by simp at hp⟩
  | .tmp t :: l, K, hs => by
    rw [resB] at hs
    obtain ⟨ps, vs, h1, h2, h3, h4⟩ := resB_sound h l _ hs
    refine ⟨_, a.tmps.getD t undef :: vs, h1, by simp [h2], by rw [List.mapM_cons]; simp only [resOne, Sem.run_bind, Sem.run_pure, Result.andThen_ok, h3], fun i p v hp hv => ?_⟩
    cases i with
    | zero => rw [List.getElem?_cons_zero] at hp hv; cases hp; cases hv; exact h.tm t
    | succ i => simp at hp hv; exact h4 i p v hp hv
  | .cell x t :: l, K, hs => by
    rw [resB] at hs
    obtain ⟨cs, A, hs, hA, hc⟩ := at1_sound h.blk (h.tm x) hs
    obtain ⟨q, hq, hs⟩ := onS_e hs
    · obtain ⟨v0, _, hv0, hr0⟩ := load_sound hc hq
      obtain ⟨ps, vs, h1, h2, h3, h4⟩ := resB_sound h l _ hs
      refine ⟨_, v0 :: vs, h1, by simp [h2], by rw [List.mapM_cons]; simp only [resOne, hA, show asAddr (.pointer (some A)) = Pure.pure A from rfl, Sem.run_bind, Sem.run_pure, Result.andThen_ok, hv0, h3], fun i p v hp hv => ?_⟩
      cases i with
      | zero => simp at hp hv; subst hp; subst hv; exact hr0
      | succ i => simp at hp hv; exact h4 i p v hp hv
theorem results_sound (h : Inv c tm m ρ a w) {fn : Func} {K : List PV → Prop} (hs : resB c.P tm m fn.results.toList K) : ∃ ps v, K ps ∧ (results fn a.tmps).run c.P w = .ok v w ∧ Rep c.M w m ρ (oneB ps) v := by
  obtain ⟨ps, vs, h1, h2, h3, h4⟩ := resB_sound h _ _ hs
  have hrun : (results fn a.tmps).run c.P w = .ok (if hh : vs.toArray.size = 1 then vs.toArray[0] else .tuple vs.toArray) w := by
    have e : results fn a.tmps = (do
        let vs ← fn.results.mapM (resOne a.tmps)
        Pure.pure (if h : vs.size = 1 then vs[0] else .tuple vs)) := by
      unfold results
      congr
    rw [e, Array.mapM_eq_mapM_toList]
    simp only [Sem.run_bind, Sem.run_map, h3, Result.andThen_ok, Sem.run_pure]
  refine ⟨ps, _, h1, hrun, ?_⟩
  clear h1 hrun h3
  match ps, vs, h2, h4 with
  | [], [], _, _ => exact .tup rfl (fun i p v hp => by simp at hp)
  | [p], [v], _, h4 => exact h4 0 p v rfl rfl
  | p :: q :: ps, v :: u :: vs, h2, h4 =>
    rw [dif_neg (by simp)]
    exact .tup (by simpa using h2) (fun i p v hp hv => h4 i p v hp (by simpa using hv))
theorem fin_sound (h : Inv c tm m ρ a w) {p : PV} {v : Value} {Q : PV → Mem → Prop} (hp : Rep c.M w m ρ p v) (hf : fin c.n m p Q) : ∃ r m' ρ', Q r m' ∧ Rep c.M w m' ρ' r v ∧ Inv c [] m' ρ' { a with tmps := a.tmps } w := by
  obtain ⟨h1, h2⟩ := reach_spec c.n m [p]
  obtain ⟨h3, h4⟩ := h.canon h1 h2 false
  exact ⟨_, _, _, hf, h4 p v hp, ⟨h3.sz, h3.df, fun t => .im .any, h3.blk, h3.sep, h3.new, h3.fr, h3.old, h3.dis, h3.ft⟩⟩
/-- What the evaluation of its code tells, a function does. -/
theorem does_ofRT {f : FuncId} {fn : Func} {co : Code} {args : List PV} {m : Mem} {np : Nat} {Q : PV → Mem → Prop} {R : Value → Prop} (hm : P.follows .mixedOrders = true) (hf : P.funcs[f]? = some fn) (hb : fn.body = some co) (tr : Nat → Option (Tr × List Nat)) (hg : goodT tr fn = true) (lent : FuncId → Bool) (live : Nat → List Nat)
    (hs : execC P np lent m.length live tr co (doneR P m.length fn.results.toList Q R) (number 0 args) m) : DoesR P f args m np Q R := by
  rw [goodT, goodK, hb] at hg
  simp only [Bool.and_eq_true, Bool.not_eq_true'] at hg
  refine ⟨⟨fn, co, hf, hb, hg.1⟩, fun M w vs ρ hM hmem hl hr => ?_⟩
  have h0 := Inv.start (P := P) (np := np) (kd := fun _ => true) hM hmem hl hr (fn.ntmps - vs.size)
  refine calls_of_wp hf hb (wp_mono (execC_sound (c := ⟨P, M, w, Own m ρ, vs.size + (fn.ntmps - vs.size), m.length, np, m, ρ, [], fun _ => true⟩) hm (K := doneR P m.length fn.results.toList Q R) (fun v tm m d hd h => h) (okCode_mono (by simp only; omega) co hg.2) hs h0) fun e a w' hq => ?_)
  have fin' : ∀ (tm : Tm) (m' : Mem) (ρ' : Nat → Value), resB P tm m' fn.results.toList (fun ps => fin m.length m' (oneB ps) Q) → Inv ⟨P, M, w, Own m ρ, vs.size + (fn.ntmps - vs.size), m.length, np, m, ρ, [], fun _ => true⟩ tm m' ρ' a w' → a.defers = [] ∧ ∃ v, (results fn a.tmps).run P w' = .ok v w' ∧ ((∃ v' r m' ρ', Ending.returned v = .returned v' ∧ Q r m' ∧ Fr (Own m ρ) w w' ∧ Rep M w' m' ρ' r v' ∧ MemOk P M w' m' ρ' ∧ Foot ⟨P, M, w, Own m ρ, 0, m.length, np, m, ρ, [], fun _ => true⟩ m' ρ' ∧ ∀ b k, Live m' b → own1 (ρ' b) = some k → w.heap.size ≤ k ∨ Own m ρ k) ∨
      ∃ x, Ending.returned v = .panicked [{ v := x, recovered := false }] ∧ R x ∧ Fr (Own m ρ) w w') := by
    intro tm m1 ρ1 h1 h2
    obtain ⟨ps, v, h3, h4, h5⟩ := results_sound (c := ⟨P, M, w, Own m ρ, vs.size + (fn.ntmps - vs.size), m.length, np, m, ρ, [], fun _ => true⟩) h2 h1
    obtain ⟨r, m', ρ', h6, h7, h8⟩ := fin_sound h2 h5 h3
    exact ⟨h2.df, v, h4, .inl ⟨v, r, m', ρ', rfl, h6, h2.fr, h7, ⟨h8.blk, h8.sep, fun b k hb hk => h8.out hb hk⟩, ⟨h8.ft.len, h8.ft.var, h8.ft.row, h8.ft.dead⟩, h8.new⟩⟩
  cases e with
  | normal => obtain ⟨tm, m', ρ', h1, h2⟩ := hq; exact fin' tm m' ρ' h1 h2
  | ret => obtain ⟨tm, m', ρ', h1, h2⟩ := hq; exact fin' tm m' ρ' h1 h2
  | exit id => obtain ⟨tm, m', ρ', h1, h2⟩ := hq; exact h1.elim
  | goto l => exact hq.elim
  | panic ch =>
    obtain ⟨v, rfl, tm, m', ρ', h1, h2⟩ := hq
    exact ⟨h2.df, .inr ⟨v, rfl, h1, h2.fr⟩⟩
  | outgrown => exact hq.elim
theorem does_ofT {f : FuncId} {fn : Func} {co : Code} {args : List PV} {m : Mem} {np : Nat} {Q : PV → Mem → Prop} (hm : P.follows .mixedOrders = true) (hf : P.funcs[f]? = some fn) (hb : fn.body = some co) (tr : Nat → Option (Tr × List Nat)) (hg : goodT tr fn = true) (lent : FuncId → Bool) (live : Nat → List Nat)
    (hs : execC P np lent m.length live tr co (done P m.length fn.results.toList Q) (number 0 args) m) : Does P f args m np Q := does_ofRT hm hf hb tr hg lent live hs
end
def noT : Nat → Option (Tr × List Nat) := fun _ => none
def good (fn : Func) : Bool := goodT noT fn
theorem does_of {P : Program} {f : FuncId} {fn : Func} {co : Code} {args : List PV} {m : Mem} {np : Nat} {Q : PV → Mem → Prop} (hm : P.follows .mixedOrders = true) (hf : P.funcs[f]? = some fn) (hb : fn.body = some co) (hg : good fn = true) (lent : FuncId → Bool) (live : Nat → List Nat)
    (hs : execC P np lent m.length live noT co (done P m.length fn.results.toList Q) (number 0 args) m) : Does P f args m np Q := does_ofT hm hf hb noT hg lent live hs
theorem does_ofR {P : Program} {f : FuncId} {fn : Func} {co : Code} {args : List PV} {m : Mem} {np : Nat} {Q : PV → Mem → Prop} {R : Value → Prop} (hm : P.follows .mixedOrders = true) (hf : P.funcs[f]? = some fn) (hb : fn.body = some co) (hg : good fn = true) (lent : FuncId → Bool) (live : Nat → List Nat)
    (hs : execC P np lent m.length live noT co (doneR P m.length fn.results.toList Q R) (number 0 args) m) : DoesR P f args m np Q R := does_ofRT hm hf hb noT hg lent live hs
end Go.V
#print axioms Go.V.does_ofR
