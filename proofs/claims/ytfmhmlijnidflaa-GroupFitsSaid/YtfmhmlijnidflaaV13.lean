import Derived.Test.YtfmhmlijnidflaaV12
import Derived.RangeFuncIn
import Derived.RangeFuncLeaves
import Derived.OrdersIn
import Derived.TacticsIn
set_option linter.unusedVariables false
set_option linter.unusedSimpArgs false
namespace Go.V
open Go
/-! a round of a range over a function -/
/-- The fence of a round's frame. -/
abbrev rd (l : Nat) : Fence := Fence.wide.inRound l
def ndOp (o : Oper) : Bool := match o.op with
  | .defer _ => false
  | _ => true
def ndOps (ops : Array Oper) : Bool := ops.toList.all ndOp
def ndCode : Code → Bool
  | .region _ ops _ => ndOps ops
  | .seq a b => ndCode a && ndCode b
  | .cond _ a b => ndCode a && ndCode b
  | .block _ a => ndCode a
  | .loop a => ndCode a
  | .scope _ => false
  | _ => true
section
variable {P : Program} {Q : Exit → Act → World → Prop} {K : Act → World → Prop} {a : Act} {w : World} {l n : Nat} {ops : Array Oper}
theorem wp_in {o : Oper} (hd : ndOp o = true) (h : o.wp P a w K Q) : o.wpIn (rd l) n P a w K Q := by
  refine ⟨fun _ _ => trivial, ?_⟩
  rw [Oper.semAt_eq _ _ _ (fun c hc => by rw [ndOp, hc] at hd; cases hd)]
  unfold Oper.wp at h
  generalize (execOp a.eval o).run P w = r at *
  cases r with
  | ok x w' =>
    cases x with
    | value v => exact h
    | skip => exact h
    | defer d => exact h
    | enter f args => exact ⟨fun h => (by cases h), (callsIn_wide.2 h : CallsIn Fence.wide _ _ _ _ _ _)⟩
    | row row args => exact ⟨fun h => (by cases h), fun c cs _ => by obtain ⟨v, w2, h1, h2⟩ := h c cs; exact ⟨v, w2, h1, stepsIn_wide.2 h2⟩⟩
    | _ => exact h.elim
  | halt x w' => cases x <;> exact h
theorem ndOps_get (h : ndOps ops = true) {i : Nat} {o : Oper} (ho : ops[i]? = some o) : ndOp o = true := List.all_eq_true.1 h o (List.mem_of_getElem? (by rw [Array.getElem?_toList]; exact ho))
theorem list_in (hlo : ¬ LetsOut Q) : ∀ (os : List Oper) (a : Act) (w : World), os.all ndOp = true → wpList P ops Q os a w → wpListIn (rd l) n P ops Q os a w
  | [], a, w, _, h => h
  | o :: os, a, w, hd, h => by
    rw [List.all_cons, Bool.and_eq_true] at hd
    rw [wpList] at h
    rw [wpListIn]
    split
    · rename_i hw
      rw [if_pos hw] at h
      exact Oper.wpIn_mono (fun a w h => list_in hlo os a w hd.2 h) (wp_in hd.1 (h.resolve_right fun h => hlo h.2))
    · rename_i hw
      rw [if_neg hw] at h
      exact ⟨fun _ _ => trivial, list_in hlo os _ _ hd.2 h⟩
theorem region_in_list {id : Nat} (hd : ndCode (.region id ops false) = true) (hlo : ¬ LetsOut Q) (h : wpList P ops Q ops.toList a w) : (Code.region id ops false).wpIn (rd l) n P Q a w :=
  wpIn_region_list (list_in hlo _ _ _ hd h)
theorem any_in {md : Region.Mode} (hd : ndOps ops = true) (hlo : ¬ LetsOut Q) : ∀ (f : Nat) (ls : Array Bool) (a : Act) (w : World), wpAny P md ops Q f ls a w → wpAnyIn (rd l) n P md ops Q f ls a w
  | 0, ls, a, w, h => h
  | f + 1, ls, a, w, h => by
    rw [wpAny] at h
    rw [wpAnyIn]
    refine ⟨h.1, fun i hi => ?_⟩
    have h2 := h.2 i hi
    unfold wpOp at h2
    unfold wpOpIn
    cases ho : ops[i]? with
    | none => rw [ho] at h2; exact any_in hd hlo f _ a w h2
    | some o =>
      rw [ho] at h2
      simp only at h2 ⊢
      split
      · rename_i hw
        rw [if_pos hw] at h2
        exact Oper.wpIn_mono (fun a w h => any_in hd hlo f _ a w h) (wp_in (ndOps_get hd ho) (h2.resolve_right fun h => hlo h.2))
      · rename_i hw
        rw [if_neg hw] at h2
        exact ⟨fun _ _ => trivial, any_in hd hlo f _ _ w h2⟩
end
section
variable {c : Cx} {P : Program} {M M' M2 : Nat → Prop} {w0 w w' : World} {S : Nat → Prop} {N : Nat} {tm : Tm} {m m' m2 : Mem} {ρ ρ' ρ2 : Nat → Value} {a : Act}
variable {lent : FuncId → Bool} {kp : Value → Tm → Mem → Prop} {d : Option Tmp} {ty : TypeId} {pos : String} {af : Array Edge} {g : Option (Nat × Bool)} {k : Tm → Mem → Prop} {Q : Exit → Act → World → Prop}
theorem post_lo {K : KF} : ¬ LetsOut (Post c K) := fun ⟨_, _, h⟩ => h.elim
theorem draw_in {l0 n0 id : Nat} {ops : Array Oper} (hD : ndCode (.region id ops true) = true) (hlo : ¬ LetsOut Q) (hm : c.P.follows .mixedOrders = true) (hQn : ∀ (d : Nat) (v : Value) ch a w, c.kd d = true → Q (.panic ch) (a.put (some d) v) w → Q (.panic ch) a w) (hP : ∀ v a w, Then c (kp v) a w → Q (.panic [{ v := v, recovered := false }]) a w) {k : Tm → Mem → Prop} (hQ : ∀ a w, Then c k a w → Q .normal a w) (hN : okOps c.N ops.toList = true) {t : Option (Tr × List Nat)} (hkd : kdOps c.kd ops = true) (hdr : drawOk ops t = true) (hs : execR c.P c.np lent kp c.n ops k ops.toList tm m t) (h : Inv c tm m ρ a w) : (Code.region id ops true).wpIn (rd l0) n0 c.P Q a w := by
  rw [drawOk, Bool.and_eq_true] at hdr
  refine wpIn_region_any hm (any_in hD hlo _ _ _ _ (anyS_any _ _ _ _ (cover_any hdr.1 (fun i o v ch a w ho hq => ?_) _ _ _ a _ Cl.start hdr.2 ?_)))
  · cases hd : o.dst with
    | none => rw [hd] at hq; exact hq
    | some d => rw [hd] at hq; exact hQn d v ch a w (kdOps_get hkd ho hd) hq
  cases t with
  | none => exact chain_sound hP hQ hN _ 0 _ tm m ρ a _ rfl (by simp) hs h.drew
  | some T =>
    obtain ⟨X, hX, hs⟩ := hs
    refine execT_sound (k := fun tm m => head c.n T.2 tm m X) hP (fun a w hT => ?_) hN T.1 tm m ρ a _ hs h.drew
    obtain ⟨tm1, m1, ρ1, h1, h2⟩ := hT
    obtain ⟨tm2, m2, ρ2, h3, h4⟩ := head_sound h2 h1
    exact hQ _ _ ⟨tm2, m2, ρ2, hX _ _ h3, h4⟩
variable {live : Nat → List Nat} {tr : Nat → Option (Tr × List Nat)}
theorem loop_in {l0 n0 : Nat} {co : Code} (hc : ∀ (K : KF) (tm : Tm) (m : Mem) (ρ : Nat → Value) (a : Act) (w : World), PanK c.kd K → execC c.P c.np lent c.n live tr co K tm m → Inv c tm m ρ a w → co.wpIn (rd l0) n0 c.P (Post c K) a w) {lv : List Nat} {K : KF} (hK : PanK c.kd K) :
    ∀ (tm : Tm) (m : Mem), LoopP c.n (execC c.P c.np lent c.n live tr co) lv K tm m → ∀ (ρ : Nat → Value) (a : Act) (w : World), Inv c tm m ρ a w → ∀ (b : Frame) (kk : List Item) (cs : List Frame), b.roundOf = (rd l0).round →
      ∃ e a' w', Post c K e a' w' ∧ ArrivesIn (Machine.fenced c.P (rd l0)) c.P (lone (b.atR a (.code co :: .inLoop co :: kk)) cs w) b kk cs e a' w' := by
  intro tm m hl
  induction hl with
  | mk X hX hb ih =>
    intro ρ a w h b kk cs hro
    obtain ⟨e, a₁, w₁, hq, harr⟩ := hc (fun e tm' m' => match e with | .normal => head c.n lv tm' m' X | e => K e tm' m') _ _ ρ a w (fun v tm m d hd h => hK v tm m d hd h) hb h b (.inLoop co :: kk) cs hro trivial (room_wide _)
    cases e with
    | normal =>
      obtain ⟨tm1, m1, ρ1, h1, h2⟩ := hq
      obtain ⟨tm2, m2, ρ2, h3, h4⟩ := head_sound h2 h1
      obtain ⟨e₂, a₂, w₂, hq₂, harr₂⟩ := ih tm2 m2 h3 ρ2 a₁ w₁ h4 b kk cs hro
      exact ⟨e₂, a₂, w₂, hq₂, .of_steps (StepsIn.trans harr (.one (fenced_wide _ _) stepR_inLoop)) harr₂⟩
    | exit id => exact ⟨.exit id, a₁, w₁, hq, .pass (x := .inLoop co) rfl (fun _ _ => .inl (by simp)) harr⟩
    | ret => exact ⟨.ret, a₁, w₁, hq, .pass (x := .inLoop co) rfl (fun _ _ => .inl (by simp)) harr⟩
    | goto l => exact hq.elim
    | panic ch => exact ⟨.panic ch, a₁, w₁, hq, .pass (x := .inLoop co) rfl (fun _ _ => .inl (by simp)) harr⟩
    | outgrown => exact hq.elim
theorem execC_in' {l0 n0 : Nat} (hm : c.P.follows .mixedOrders = true) : ∀ (co : Code), (∀ (K : KF) (tm : Tm) (m : Mem) (ρ : Nat → Value) (a : Act) (w : World), PanK c.kd K → okCode c.N c.kd tr co = true → ndCode co = true → execC c.P c.np lent c.n live tr co K tm m → Inv c tm m ρ a w → co.wpIn (rd l0) n0 c.P (Post c K) a w) ∧
    ∀ c', co = .loop c' → ∀ (K : KF) (tm : Tm) (m : Mem) (ρ : Nat → Value) (a : Act) (w : World), PanK c.kd K → okCode c.N c.kd tr c' = true → ndCode c' = true → execC c.P c.np lent c.n live tr c' K tm m → Inv c tm m ρ a w → c'.wpIn (rd l0) n0 c.P (Post c K) a w := by
  intro co
  induction co with
  | skip => exact ⟨fun K tm m ρ a w hK hN hD hs h => Go.wpIn_skip (show Then c (K .normal) a w from ⟨tm, m, ρ, by simpa only [execC] using hs, h⟩), fun c' e => by cases e⟩
  | label l => exact ⟨fun K tm m ρ a w hK hN hD hs h => Go.wpIn_label (show Then c (K .normal) a w from ⟨tm, m, ρ, by simpa only [execC] using hs, h⟩), fun c' e => by cases e⟩
  | region id ops draw =>
    refine ⟨fun K tm m ρ a w hK hN hD hs h => ?_, fun c' e => by cases e⟩
    rw [okCode, Bool.and_eq_true] at hN
    cases draw with
    | true => 
      have h2 : kdOps c.kd ops = true ∧ drawOk ops (tr id) = true := by
        have h3 := hN.2
        rw [Bool.not_true, Bool.false_or, Bool.and_eq_true] at h3
        exact h3
      exact draw_in hD post_lo (k := K .normal) (kp := fun v => K (.pan v)) (Q := Post c K) hm (fun d v ch a w hd h => post_unput hK d v ch a w hd h) (fun v a w h => ⟨v, rfl, h⟩) (fun a w h => h) hN.1 h2.1 h2.2 (by simpa only [execC] using hs) h
    | false =>
      have hs : execOps c.P c.np lent (fun v => K (.pan v)) ops (K .normal) ops.toList tm m := by simpa only [execC] using hs
      exact region_in_list hD post_lo (execOps_sound (k := K .normal) (kp := fun v => K (.pan v)) (Q := Post c K) (fun v a w h => ⟨v, rfl, h⟩) (fun a w h => h) ops.toList tm m ρ a w hN.1 hs h)
  | seq x y ihx ihy =>
    refine ⟨fun K tm m ρ a w hK hN hD hs h => ?_, fun c' e => by cases e⟩
    rw [okCode, Bool.and_eq_true] at hN
    rw [ndCode, Bool.and_eq_true] at hD
    simp only [execC] at hs
    refine Go.wpIn_seq (Go.wpIn_mono (ihx.1 (andThen (execC c.P c.np lent c.n live tr y K) K) tm m ρ a w (fun v tm m d hd h => hK v tm m d hd h) hN.1 hD.1 hs h) fun e a w hq => ?_)
    cases e with
    | normal => obtain ⟨tm1, m1, ρ1, h1, h2⟩ := hq; exact ihy.1 _ tm1 m1 ρ1 a w hK hN.2 hD.2 h1 h2
    | exit id => exact hq
    | ret => exact hq
    | goto l => exact hq.elim
    | panic ch => exact hq
    | outgrown => exact hq.elim
  | cond x0 x y ihx ihy =>
    refine ⟨fun K tm m ρ a w hK hN hD hs h => ?_, fun c' e => by cases e⟩
    rw [okCode, Bool.and_eq_true] at hN
    rw [ndCode, Bool.and_eq_true] at hD
    simp only [execC, ifB] at hs
    obtain ⟨b, hc, hs⟩ := onBool_e hs
    · have hv := (hc ▸ h.ev x0 : Rep c.M w m ρ (.val (.bool b)) (a.eval x0)).val_eq
      refine Go.wpIn_cond hv ?_
      split at hs
      · rename_i e; rw [if_pos e]; exact ihx.1 _ tm m ρ a w hK hN.1 hD.1 hs h
      · rename_i e; rw [if_neg e]; exact ihy.1 _ tm m ρ a w hK hN.2 hD.2 hs h
  | scope x ih => exact ⟨fun K tm m ρ a w hK hN hD hs h => (by cases hD), fun c' e => (by cases e)⟩
  | block id x ih =>
    refine ⟨fun K tm m ρ a w hK hN hD hs h => ?_, fun c' e => by cases e⟩
    rw [okCode] at hN
    by_cases hl : ∃ c', x = .loop c'
    · obtain ⟨c', rfl⟩ := hl
      rw [okCode] at hN
      rw [ndCode, ndCode] at hD
      simp only [execC] at hs
      refine Go.wpIn_block (Go.wpIn_mono (Q := Post c (leave id K)) ?_ post_leave)
      intro b kk cs hro _ _
      obtain ⟨tm2, m2, ρ2, h3, h4⟩ := head_sound h hs
      obtain ⟨e, a', w', hq, harr⟩ := loop_in (K := leave id K) (fun K tm m ρ a w hK hs h => ih.2 c' rfl K tm m ρ a w hK hN hD hs h) (fun v tm m d hd h => hK v tm m d hd h) _ _ h3 ρ2 a w h4 b kk cs hro
      exact ⟨e, a', w', hq, .of_steps (.one (fenced_wide _ _) stepR_loop) harr⟩
    · have hs' : execC c.P c.np lent c.n live tr x (leave id K) tm m := by
        cases x <;> first | (simp only [execC] at hs; done) | (simp only [execC] at hs ⊢; exact hs) | exact absurd ⟨_, rfl⟩ hl
      exact Go.wpIn_block (Go.wpIn_mono (ih.1 (leave id K) tm m ρ a w (fun v tm m d hd h => hK v tm m d hd h) hN hD hs' h) post_leave)
  | loop x ih => exact ⟨fun K tm m ρ a w hK hN hD hs h => by simp [execC] at hs, fun c' e => by cases e; exact ih.1⟩
  | exit id => exact ⟨fun K tm m ρ a w hK hN hD hs h => Go.wpIn_exit (show Then c (K (.exit id)) a w from ⟨tm, m, ρ, by simpa only [execC] using hs, h⟩), fun c' e => by cases e⟩
  | ret => exact ⟨fun K tm m ρ a w hK hN hD hs h => Go.wpIn_ret (show Then c (K .ret) a w from ⟨tm, m, ρ, by simpa only [execC] using hs, h⟩), fun c' e => by cases e⟩
  | _ => exact ⟨fun K tm m ρ a w hK hN hD hs h => by simp [execC] at hs, fun c' e => by cases e⟩
theorem execC_in {l0 n0 : Nat} (hm : c.P.follows .mixedOrders = true) {co : Code} {K : KF} (hK : PanK c.kd K) (hN : okCode c.N c.kd tr co = true) (hD : ndCode co = true) (hs : execC c.P c.np lent c.n live tr co K tm m) (h : Inv c tm m ρ a w) : co.wpIn (rd l0) n0 c.P (Post c K) a w := (execC_in' hm co).1 K tm m ρ a w hK hN hD hs h
end
end Go.V
