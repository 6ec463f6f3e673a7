import Derived.Test.YtfmhmlijnidflaaV10
import Derived.IntWalk
set_option linter.unusedVariables false
set_option linter.unusedSimpArgs false
namespace Go.V
open Go Go.RowKit
/-! the words of evaluation -/
def treesT : List (Nat × (Tr × List Nat)) → Nat → Option (Tr × List Nat)
  | [], _ => none
  | (k, x) :: l, f => if k = f then some x else treesT l f
section
variable {P : Program} {np n : Nat} {lent : FuncId → Bool} {kp : Value → Tm → Mem → Prop} {live : Nat → List Nat} {tr : Nat → Option (Tr × List Nat)} {K : KF} {k : Tm → Mem → Prop} {tm : Tm} {m : Mem} {ops : Array Oper}
theorem x_skip : execC P np lent n live tr .skip K tm m = K .normal tm m := by simp only [execC]
theorem x_label {l : Nat} : execC P np lent n live tr (.label l) K tm m = K .normal tm m := by simp only [execC]
theorem x_scope {c : Code} : execC P np lent n live tr (.scope c) K tm m = execC P np lent n live tr c K tm m := by simp only [execC]
theorem x_region0 {id : Nat} {l : List Oper} : execC P np lent n live tr (.region id l.toArray false) K tm m = execOps P np lent (fun v => K (.pan v)) l.toArray (K .normal) l tm m := by simp only [execC]
theorem x_region1 {id : Nat} {l : List Oper} : execC P np lent n live tr (.region id l.toArray true) K tm m = execR P np lent (fun v => K (.pan v)) n l.toArray (K .normal) l tm m (tr id) := by simp only [execC]
theorem noT_eq {i : Nat} : noT i = none := rfl
theorem r_none {l : List Oper} : execR P np lent kp n ops k l tm m none = execOps P np lent kp ops k l tm m := rfl
theorem r_some {l : List Oper} {T : Tr} {lv : List Nat} : execR P np lent kp n ops k l tm m (some (T, lv)) = joinP k fun X => execT P np lent kp ops l (fun tm m => head n lv tm m X) T tm m := rfl
theorem t_nil {l : List Oper} : execT P np lent kp ops l k .nil tm m = k tm m := rfl
theorem t_one {l : List Oper} {i : Nat} {t : Tr} : execT P np lent kp ops l k (.one i t) tm m = onS l[i]? fun o => stepO P np lent kp ops (execT P np lent kp ops l k t) o tm m := rfl
theorem t_op {dst : Option Tmp} {op : Op} {ty : TypeId} {pos : String} {af : Array Edge} : stepO P np lent kp ops k ⟨dst, op, ty, pos, af, none⟩ tm m = step P np lent kp tm m dst ty k op := rfl
theorem t_guard {dst : Option Tmp} {op : Op} {ty : TypeId} {pos : String} {af : Array Edge} {j : Nat} {want : Bool} : stepO P np lent kp ops k ⟨dst, op, ty, pos, af, some (j, want)⟩ tm m = onS (told ops tm j want) fun b => ifB b (step P np lent kp tm m dst ty k op) (k (put tm dst (.val undef)) m) := rfl
theorem x_seq {a b : Code} : execC P np lent n live tr (.seq a b) K tm m = execC P np lent n live tr a (andThen (execC P np lent n live tr b K) K) tm m := by simp only [execC]
theorem x_cond {c : Operand} {x y : Code} : execC P np lent n live tr (.cond c x y) K tm m = onBool (ev tm c) fun b => ifB b (execC P np lent n live tr x K tm m) (execC P np lent n live tr y K tm m) := by rw [execC]
theorem x_loop {id : Nat} {c : Code} : execC P np lent n live tr (.block id (.loop c)) K tm m = head n (live id) tm m (LoopP n (execC P np lent n live tr c) (live id) (leave id K)) := by simp only [execC]
theorem x_block_seq {id : Nat} {a b : Code} : execC P np lent n live tr (.block id (.seq a b)) K tm m = execC P np lent n live tr (.seq a b) (leave id K) tm m := by simp only [execC]
theorem x_block_region {id i : Nat} {o : Array Oper} {d : Bool} : execC P np lent n live tr (.block id (.region i o d)) K tm m = execC P np lent n live tr (.region i o d) (leave id K) tm m := by simp only [execC]
theorem x_block_cond {id : Nat} {c : Operand} {a b : Code} : execC P np lent n live tr (.block id (.cond c a b)) K tm m = execC P np lent n live tr (.cond c a b) (leave id K) tm m := by simp only [execC]
theorem x_block_block {id i : Nat} {a : Code} : execC P np lent n live tr (.block id (.block i a)) K tm m = execC P np lent n live tr (.block i a) (leave id K) tm m := by simp only [execC]
theorem x_exit {id : Nat} : execC P np lent n live tr (.exit id) K tm m = K (.exit id) tm m := by simp only [execC]
theorem x_ret : execC P np lent n live tr .ret K tm m = K .ret tm m := by simp only [execC]
theorem k_then {K1 : Tm → Mem → Prop} : andThen K1 K .normal tm m = K1 tm m := rfl
theorem k_then_exit {K1 : Tm → Mem → Prop} {i : Nat} : andThen K1 K (.exit i) tm m = K (.exit i) tm m := rfl
theorem k_then_ret {K1 : Tm → Mem → Prop} : andThen K1 K .ret tm m = K .ret tm m := rfl
theorem k_then_pan {K1 : Tm → Mem → Prop} {v : Value} : andThen K1 K (.pan v) tm m = K (.pan v) tm m := rfl
theorem k_leave_pan {id : Nat} {v : Value} : leave id K (.pan v) tm m = K (.pan v) tm m := rfl
theorem dR_normal {rs : List ResultVar} {Q : PV → Mem → Prop} {R : Value → Prop} : doneR P n rs Q R .normal tm m = resB P tm m rs fun ps => fin n m (oneB ps) Q := rfl
theorem dR_ret {rs : List ResultVar} {Q : PV → Mem → Prop} {R : Value → Prop} : doneR P n rs Q R .ret tm m = resB P tm m rs fun ps => fin n m (oneB ps) Q := rfl
theorem dR_pan {rs : List ResultVar} {Q : PV → Mem → Prop} {R : Value → Prop} {v : Value} : doneR P n rs Q R (.pan v) tm m = R v := rfl
theorem k_leave {id : Nat} : leave id K .normal tm m = K .normal tm m := rfl
theorem k_leave_exit {id i : Nat} : leave id K (.exit i) tm m = if i = id then K .normal tm m else K (.exit i) tm m := rfl
theorem k_leave_ret {id : Nat} : leave id K .ret tm m = K .ret tm m := rfl
theorem o_nil : execOps P np lent kp ops k [] tm m = k tm m := rfl
theorem o_cons {dst : Option Tmp} {op : Op} {ty : TypeId} {pos : String} {af : Array Edge} {rest : List Oper} : execOps P np lent kp ops k (⟨dst, op, ty, pos, af, none⟩ :: rest) tm m = step P np lent kp tm m dst ty (execOps P np lent kp ops k rest) op := rfl
theorem o_guard {dst : Option Tmp} {op : Op} {ty : TypeId} {pos : String} {af : Array Edge} {rest : List Oper} {j : Nat} {want : Bool} : execOps P np lent kp ops k (⟨dst, op, ty, pos, af, some (j, want)⟩ :: rest) tm m = onS (told ops tm j want) fun b => ifB b (step P np lent kp tm m dst ty (execOps P np lent kp ops k rest) op) (execOps P np lent kp ops k rest (put tm dst (.val undef)) m) := rfl
theorem d_normal {rs : List ResultVar} {Q : PV → Mem → Prop} : done P n rs Q .normal tm m = resB P tm m rs fun ps => fin n m (oneB ps) Q := rfl
theorem d_ret {rs : List ResultVar} {Q : PV → Mem → Prop} : done P n rs Q .ret tm m = resB P tm m rs fun ps => fin n m (oneB ps) Q := rfl
end
@[irreducible] def w64 (n : Int) : Int := wrap64 n
theorem i64w (n : Int) : IntKind.i64.wrap n = w64 n := by unfold w64 wrap64; exact IntKind.wrap_i64 n
@[irreducible] def wu (n : Int) : Int := n % 18446744073709551616
theorem u64w (n : Int) : IntKind.u64.wrap n = wu n := by unfold wu; simp [IntKind.wrap, IntKind.bits, IntKind.signed]
theorem wu_of (n : Int) (h : 0 ≤ n ∧ n ≤ 18446744073709551615) : wu n = n := by unfold wu; omega
theorem wu_eq (n : Int) : wu n = n % 18446744073709551616 := by unfold wu; rfl
theorem w64_eq (n : Int) : w64 n = (n + 9223372036854775808) % 18446744073709551616 - 9223372036854775808 := by unfold w64 wrap64; rfl
theorem w64_of (n : Int) (h : -9223372036854775808 ≤ n ∧ n ≤ 9223372036854775807) : w64 n = n := by unfold w64; exact Go.IntWalk.wrap64_in n h
attribute [go_sem] x_skip x_label x_scope x_region0 x_region1 noT_eq r_none r_some t_nil t_one t_op t_guard treesT x_seq x_cond x_loop x_block_seq x_block_region x_block_cond x_block_block x_exit x_ret k_then k_then_exit k_then_ret k_then_pan k_leave_pan dR_normal dR_ret dR_pan k_leave k_leave_exit k_leave_ret o_nil o_cons o_guard d_normal d_ret
attribute [go_sem] step.eq_1 step.eq_2 step.eq_3 step.eq_4 step.eq_5 step.eq_6 step.eq_7 step.eq_8 step.eq_9 step.eq_10 step.eq_11 step.eq_12 step.eq_13 step.eq_14 step.eq_15 step.eq_16 step.eq_17 step.eq_18 step.eq_19 step.eq_20 step.eq_21 step.eq_22 step.eq_23 step.eq_24 step.eq_25 step.eq_26 step.eq_27 step.eq_28
attribute [go_sem] decide_true decide_false not_false_eq_true not_true_eq_false List.length_map Nat.not_lt_zero and_self if_true if_false Bool.false_eq_true List.length_nil List.length_cons List.length_append List.map_nil List.map_cons List.append_nil List.nil_append List.cons_append List.getElem?_nil List.getElem?_cons_zero List.getElem?_cons_succ List.set_cons_zero List.set_cons_succ List.contains_nil List.contains_cons List.take_zero List.take_succ_cons List.drop_zero List.drop_succ_cons List.drop_nil List.take_nil List.idxOf?_nil List.idxOf?_cons Option.map_some Option.map_none Option.getD_some Option.bind_some Option.some.injEq decide_eq_true_eq beq_iff_eq Bool.and_true Bool.true_and Bool.and_false Bool.false_and Bool.not_true Bool.not_false and_true true_and beq_self_eq_true Bool.or_true Bool.true_or Bool.or_false Bool.false_or
attribute [go_sem] ev get put cut binV unV number resB oneB fin canonM reach dd above cellIds fore head keep vals renT renB alive backN setAll wipeAllT wipeAllM landM callM Value.oneCell' ren tr trs pos orig ids idss pure pures closed closeds closedM flatP wipe1 wipeT wipeM frz1 frzT frzM seen seen0 deep deepGo storeP isEad none0 nilP nilV splice bound seqFrom boolOf dstAt toldAt told landV shift slots i64w callV
/-! where the evaluation waits: what follows is kept from sight till it is known -/
class Th where
  run : Prop
def bAlt [x : Th] [y : Th] : Prop := x.run ∧ y.run
theorem t_alt {P : Program} {np : Nat} {lent : FuncId → Bool} {kp : Value → Tm → Mem → Prop} {k : Tm → Mem → Prop} {tm : Tm} {m : Mem} {ops : Array Oper} {l : List Oper} {s t : Tr} : execT P np lent kp ops l k (.alt s t) tm m = @bAlt ⟨execT P np lent kp ops l k s tm m⟩ ⟨execT P np lent kp ops l k t tm m⟩ := rfl
theorem alt_of {x y : Prop} (h1 : x) (h2 : y) : @bAlt ⟨x⟩ ⟨y⟩ := ⟨h1, h2⟩
attribute [go_sem] t_alt
class K1 (α : Type) where
  run : α → Prop
class K2 (α β : Type) where
  run : α → β → Prop
class K3 (α β γ : Type) where
  run : α → β → γ → Prop
section
variable {α : Type}
def bS (o : Option α) [k : K1 α] : Prop := onS o k.run
def bInt (p : PV) [k : K2 IntKind Int] : Prop := onInt p k.run
def bBool (p : PV) [k : K1 Bool] : Prop := onBool p k.run
def bStr (p : PV) [k : K1 ByteArray] : Prop := onStr p k.run
def bVal (p : PV) [k : K1 Value] : Prop := onVal p k.run
def bValA (p : PV) [k : K1 Value] [a : K1 (List PV)] : Prop := onValA p k.run a.run
def bAgg (p : PV) [a : K1 (List PV)] : Prop := onAgg p a.run
def bTup (p : PV) [k : K1 (List PV)] : Prop := onTup p k.run
def bFn (p : PV) [k : K2 FuncId (List PV)] : Prop := onFn p k.run
def bPtr (p : PV) [a : K2 Nat Nat] [e : K3 Nat Nat Nat] [c : K1 (List PV)] : Prop := onPtr p a.run e.run c.run
def bRow (p : PV) [s : K1 (List (List PV))] [o : K1 Nat] [l : K3 Nat Nat Nat] : Prop := onRow p s.run o.run l.run
def bApp (p : PV) [o : K1 Nat] [l : K2 Nat Nat] [n : Th] [q : K3 Nat Nat Nat] : Prop := onApp p o.run l.run n.run q.run
def bRowB (o : Option Blk) [k : K2 TypeId (List (List PV))] : Prop := onRowB o k.run
def bVarB (o : Option Blk) [k : K1 (List PV)] : Prop := onVarB o k.run
def bOne (l : List α) [k : K1 α] : Prop := onOne l k.run
def bTwo (l : List α) [k : K2 α α] : Prop := onTwo l k.run
def bIf (b : Bool) [x : Th] [y : Th] : Prop := ifB b x.run y.run
def bNeed (p : Prop) [k : Th] : Prop := need p k.run
def bKnow (p : Prop) [k : Th] : Prop := know p k.run
def bNil (es : List (List PV)) [k : K1 Bool] : Prop := nilQ es k.run
def bAt (m : Mem) (p : PV) [k : K1 (List PV)] : Prop := at1 m p k.run
def bRow1 (m : Mem) (p : PV) [k : K1 (List (List PV))] : Prop := row1 m p k.run
def bCells (p : PV) [k : K1 (List PV)] : Prop := cells p k.run
def bPart (p : List PV) [k : K1 (List (List PV))] : Prop := partCells p k.run
def bFill (pl : List (Nat × Nat)) (cs : List PV) (l : List (Nat × PV)) [k : K1 (List PV)] : Prop := fillB pl cs l k.run
def bDoes (P : Program) (f : FuncId) (args : List PV) (m : Mem) (np : Nat) [k : K2 PV Mem] [R : K1 Value] : Prop := DoesR P f args m np k.run R.run
class KJ where
  run : (Tm → Mem → Prop) → Prop
def bJoin [k : K2 Tm Mem] [A : KJ] : Prop := joinP k.run A.run
theorem w_Join {k : Tm → Mem → Prop} {A : (Tm → Mem → Prop) → Prop} : joinP k A = @bJoin ⟨k⟩ ⟨A⟩ := rfl
theorem join_of {k : Tm → Mem → Prop} {A : (Tm → Mem → Prop) → Prop} {st : Tm} {mm : Mem} (hA : ∀ X : Tm → Mem → Prop, X st mm → A X) (hk : k st mm) : @bJoin ⟨k⟩ ⟨A⟩ := ⟨fun tm m => tm = st ∧ m = mm, fun tm m ⟨h1, h2⟩ => by subst h1; subst h2; exact hk, hA _ ⟨rfl, rfl⟩⟩
class KB where
  run : KF → Tm → Mem → Prop
class KK where
  run : KF
def bLoop (n : Nat) [body : KB] (live : List Nat) [K : KK] (tm : Tm) (m : Mem) : Prop := LoopP n body.run live K.run tm m
end
section
variable {α : Type} {a : α} {o : Option α} {p : PV} {m : Mem} {es : List (List PV)}
theorem w_S {k : α → Prop} : onS o k = @bS α o ⟨k⟩ := rfl
theorem w_Int {k : IntKind → Int → Prop} : onInt p k = @bInt p ⟨k⟩ := rfl
theorem w_Bool {k : Bool → Prop} : onBool p k = @bBool p ⟨k⟩ := rfl
theorem w_Str {k : ByteArray → Prop} : onStr p k = @bStr p ⟨k⟩ := rfl
theorem w_Val {k : Value → Prop} : onVal p k = @bVal p ⟨k⟩ := rfl
theorem w_ValA {k : Value → Prop} {ka : List PV → Prop} : onValA p k ka = @bValA p ⟨k⟩ ⟨ka⟩ := rfl
theorem w_Agg {k : List PV → Prop} : onAgg p k = @bAgg p ⟨k⟩ := rfl
theorem w_Tup {k : List PV → Prop} : onTup p k = @bTup p ⟨k⟩ := rfl
theorem w_Fn {k : FuncId → List PV → Prop} : onFn p k = @bFn p ⟨k⟩ := rfl
theorem w_Ptr {ka : Nat → Nat → Prop} {ke : Nat → Nat → Nat → Prop} {kc : List PV → Prop} : onPtr p ka ke kc = @bPtr p ⟨ka⟩ ⟨ke⟩ ⟨kc⟩ := rfl
theorem w_Row {ks : List (List PV) → Prop} {ko : Nat → Prop} {kl : Nat → Nat → Nat → Prop} : onRow p ks ko kl = @bRow p ⟨ks⟩ ⟨ko⟩ ⟨kl⟩ := rfl
theorem w_App {ko : Nat → Prop} {kl : Nat → Nat → Prop} {kn : Prop} {kq : Nat → Nat → Nat → Prop} : onApp p ko kl kn kq = @bApp p ⟨ko⟩ ⟨kl⟩ ⟨kn⟩ ⟨kq⟩ := rfl
theorem w_both {x y : Prop} : both x y = @bAlt ⟨x⟩ ⟨y⟩ := rfl
theorem w_RowB {o : Option Blk} {k : TypeId → List (List PV) → Prop} : onRowB o k = @bRowB o ⟨k⟩ := rfl
theorem w_VarB {o : Option Blk} {k : List PV → Prop} : onVarB o k = @bVarB o ⟨k⟩ := rfl
theorem w_One {l : List α} {k : α → Prop} : onOne l k = @bOne α l ⟨k⟩ := rfl
theorem w_Two {l : List α} {k : α → α → Prop} : onTwo l k = @bTwo α l ⟨k⟩ := rfl
theorem w_If {b : Bool} {x y : Prop} : ifB b x y = @bIf b ⟨x⟩ ⟨y⟩ := rfl
theorem w_Need {p x : Prop} : need p x = @bNeed p ⟨x⟩ := rfl
theorem w_Know {p x : Prop} : know p x = @bKnow p ⟨x⟩ := rfl
theorem w_Nil {k : Bool → Prop} : nilQ es k = @bNil es ⟨k⟩ := rfl
theorem w_At {k : List PV → Prop} : at1 m p k = @bAt m p ⟨k⟩ := rfl
theorem w_Row1 {k : List (List PV) → Prop} : row1 m p k = @bRow1 m p ⟨k⟩ := rfl
theorem w_Cells {k : List PV → Prop} : cells p k = @bCells p ⟨k⟩ := rfl
theorem w_Part {l : List PV} {k : List (List PV) → Prop} : partCells l k = @bPart l ⟨k⟩ := rfl
theorem w_Fill {pl : List (Nat × Nat)} {cs : List PV} {l : List (Nat × PV)} {k : List PV → Prop} : fillB pl cs l k = @bFill pl cs l ⟨k⟩ := rfl
theorem w_Does {P : Program} {f : FuncId} {args : List PV} {np : Nat} {k : PV → Mem → Prop} : Does P f args m np k = @bDoes P f args m np ⟨k⟩ ⟨fun _ => False⟩ := rfl
theorem w_DoesR {P : Program} {f : FuncId} {args : List PV} {np : Nat} {k : PV → Mem → Prop} {R : Value → Prop} : DoesR P f args m np k R = @bDoes P f args m np ⟨k⟩ ⟨R⟩ := rfl
theorem w_Loop {n : Nat} {body : KF → Tm → Mem → Prop} {live : List Nat} {K : KF} {tm : Tm} : LoopP n body live K tm m = @bLoop n ⟨body⟩ live ⟨K⟩ tm m := rfl
theorem e_S {k : α → Prop} : @bS α (some a) ⟨k⟩ = k a := rfl
theorem e_S0 {k : K1 α} : @bS α none k = False := rfl
theorem e_Int {kd : IntKind} {n : Int} {k : IntKind → Int → Prop} : @bInt (.val (.int kd n)) ⟨k⟩ = k kd n := rfl
theorem e_Bool {b : Bool} {k : Bool → Prop} : @bBool (.val (.bool b)) ⟨k⟩ = k b := rfl
theorem e_Str {s : ByteArray} {k : ByteArray → Prop} : @bStr (.val (.string s)) ⟨k⟩ = k s := rfl
theorem e_Val {x : Value} {k : Value → Prop} : @bVal (.val x) ⟨k⟩ = k x := rfl
theorem e_ValA1 {x : Value} {k : Value → Prop} {ka : K1 (List PV)} : @bValA (.val x) ⟨k⟩ ka = k x := rfl
theorem e_ValA2 {cs : List PV} {k : K1 Value} {ka : List PV → Prop} : @bValA (.agg cs) k ⟨ka⟩ = ka cs := rfl
theorem e_Agg {cs : List PV} {k : List PV → Prop} : @bAgg (.agg cs) ⟨k⟩ = k cs := rfl
theorem e_Tup {l : List PV} {k : List PV → Prop} : @bTup (.tup l) ⟨k⟩ = k l := rfl
theorem e_Fn {g : FuncId} {l : List PV} {k : FuncId → List PV → Prop} : @bFn (.fn g l) ⟨k⟩ = k g l := rfl
section
variable {ka : Nat → Nat → Prop} {ke : Nat → Nat → Nat → Prop} {kc : List PV → Prop} {i j b h l : Nat} {cs : List PV}
theorem e_Ptr1 : @bPtr (.adr i j) ⟨ka⟩ ⟨ke⟩ ⟨kc⟩ = ka i j := rfl
theorem e_Ptr2 : @bPtr (.ead b i j) ⟨ka⟩ ⟨ke⟩ ⟨kc⟩ = ke b i j := rfl
theorem e_Ptr3 : @bPtr (.cad cs) ⟨ka⟩ ⟨ke⟩ ⟨kc⟩ = kc cs := rfl
variable {ks : List (List PV) → Prop} {ko : Nat → Prop} {kn : Prop}
theorem e_Row1 : @bRow (.sl es) ⟨ks⟩ ⟨ko⟩ ⟨ke⟩ = ks es := rfl
theorem e_Row2 : @bRow (.own b) ⟨ks⟩ ⟨ko⟩ ⟨ke⟩ = ko b := rfl
theorem e_Row3 : @bRow (.osl b l h) ⟨ks⟩ ⟨ko⟩ ⟨ke⟩ = ke b l h := rfl
theorem e_App1 {kq : Nat → Nat → Nat → Prop} : @bApp (.own b) ⟨ko⟩ ⟨ka⟩ ⟨kn⟩ ⟨kq⟩ = ko b := rfl
theorem e_App2 {kq : Nat → Nat → Nat → Prop} : @bApp (.osl b 0 h) ⟨ko⟩ ⟨ka⟩ ⟨kn⟩ ⟨kq⟩ = ka b h := rfl
theorem e_App3 {kq : Nat → Nat → Nat → Prop} : @bApp (.val (.slice none 0 0)) ⟨ko⟩ ⟨ka⟩ ⟨kn⟩ ⟨kq⟩ = kn := rfl
theorem e_App4 {l : Nat} {kq : Nat → Nat → Nat → Prop} : @bApp (.osl b (l + 1) h) ⟨ko⟩ ⟨ka⟩ ⟨kn⟩ ⟨kq⟩ = kq b (l + 1) h := rfl
theorem e_At1 : @bAt m (.adr b i) ⟨kc⟩ = onVarB m[b]? fun cs => kc (cs.drop i) := rfl
theorem e_At2 : @bAt m (.ead b i j) ⟨kc⟩ = onRowB m[b]? fun _ es => onS es[i]? fun e => kc (e.drop j) := rfl
theorem e_At3 : @bAt m (.cad cs) ⟨kc⟩ = kc cs := rfl
theorem e_Rw1 : @bRow1 m (.sl es) ⟨ks⟩ = ks es := rfl
theorem e_Rw2 : @bRow1 m (.own b) ⟨ks⟩ = onRowB m[b]? fun _ es => ks es := rfl
theorem e_Rw3 : @bRow1 m (.osl b l h) ⟨ks⟩ = onRowB m[b]? fun _ es => ks ((es.take h).drop l) := rfl
theorem e_Rw4 : @bRow1 m (.val (.slice none 0 0)) ⟨ks⟩ = ks [] := rfl
theorem e_Ce1 : @bCells (.agg cs) ⟨kc⟩ = kc cs := rfl
theorem e_Ce2 {x : Value} : @bCells (.val x) ⟨kc⟩ = need (x.oneCell' = true) (kc [.val x]) := rfl
theorem e_Ce3 : @bCells (.sl es) ⟨kc⟩ = kc [.sl es] := rfl
theorem e_Ce4 : @bCells (.own b) ⟨kc⟩ = kc [.own b] := rfl
theorem e_Ce5 : @bCells (.osl b l h) ⟨kc⟩ = kc [.osl b l h] := rfl
theorem e_Ce6 : @bCells (.adr b i) ⟨kc⟩ = kc [.adr b i] := rfl
theorem e_Ce7 {f : FuncId} : @bCells (.fn f cs) ⟨kc⟩ = kc [.fn f cs] := rfl
theorem e_Pt1 : @bPart [] ⟨ks⟩ = ks [] := rfl
theorem e_Pt2 : @bPart (p :: cs) ⟨ks⟩ = cells p fun c => partCells cs fun l => ks (c :: l) := rfl
theorem e_Fi1 {pl : List (Nat × Nat)} : @bFill pl cs [] ⟨kc⟩ = kc cs := rfl
theorem e_Fi2 {pl : List (Nat × Nat)} {q : List (Nat × PV)} : @bFill pl cs ((i, p) :: q) ⟨kc⟩ = onS pl[i]? fun x => cells p fun ns => need (ns.length = x.2 ∧ x.1 + ns.length ≤ cs.length) (fillB pl (splice cs x.1 ns) q kc) := rfl
end
theorem e_RowB {e : TypeId} {k : TypeId → List (List PV) → Prop} : @bRowB (some (.row e es)) ⟨k⟩ = k e es := rfl
theorem e_VarB {cs : List PV} {k : List PV → Prop} : @bVarB (some (.var cs)) ⟨k⟩ = k cs := rfl
theorem e_One {k : α → Prop} : @bOne α [a] ⟨k⟩ = k a := rfl
theorem e_Two {b : α} {k : α → α → Prop} : @bTwo α [a, b] ⟨k⟩ = k a b := rfl
variable {x y q : Prop} {b : Bool}
theorem e_If1 {y : Th} : @bIf true ⟨x⟩ y = x := by unfold bIf ifB; exact if_pos rfl
theorem e_If0 {x : Th} : @bIf false x ⟨y⟩ = y := by unfold bIf ifB; exact if_neg Bool.false_ne_true
theorem e_Need : @bNeed True ⟨x⟩ = x := true_and x
theorem if_of (h1 : b = true → x) (h0 : b = false → y) : @bIf b ⟨x⟩ ⟨y⟩ := by
  cases b
  · rw [e_If0]; exact h0 rfl
  · rw [e_If1]; exact h1 rfl
theorem ifD_of [Decidable q] (h1 : q → x) (h0 : ¬ q → y) : @bIf (decide q) ⟨x⟩ ⟨y⟩ := if_of (fun h => h1 (of_decide_eq_true h)) (fun h => h0 (of_decide_eq_false h))
theorem ifE_of {i j : Int} (h1 : i = j → x) (h0 : i ≠ j → y) : @bIf (i == j) ⟨x⟩ ⟨y⟩ := if_of (fun h => h1 (by simpa using h)) (fun h => h0 (by simpa using h))
theorem ifN_of {i j : Int} (h1 : i ≠ j → x) (h0 : i = j → y) : @bIf (i != j) ⟨x⟩ ⟨y⟩ := if_of (fun h => h1 (by simpa using h)) (fun h => h0 (by simpa using h))
theorem ifNot_of (h1 : b = false → x) (h0 : b = true → y) : @bIf (!b) ⟨x⟩ ⟨y⟩ := if_of (fun h => h1 (by simpa using h)) (fun h => h0 (by simpa using h))
theorem ifD1 [Decidable q] (h : q) (h1 : x) : @bIf (decide q) ⟨x⟩ ⟨y⟩ := ifD_of (fun _ => h1) (fun h0 => absurd h h0)
theorem ifD0 [Decidable q] (h : ¬ q) (h1 : y) : @bIf (decide q) ⟨x⟩ ⟨y⟩ := ifD_of (fun h0 => absurd h0 h) (fun _ => h1)
theorem ifE1 {i j : Int} (h : i = j) (h1 : x) : @bIf (i == j) ⟨x⟩ ⟨y⟩ := ifE_of (fun _ => h1) (fun h0 => absurd h h0)
theorem ifE0 {i j : Int} (h : i ≠ j) (h1 : y) : @bIf (i == j) ⟨x⟩ ⟨y⟩ := ifE_of (fun h0 => absurd h0 h) (fun _ => h1)
theorem ifN1 {i j : Int} (h : i ≠ j) (h1 : x) : @bIf (i != j) ⟨x⟩ ⟨y⟩ := ifN_of (fun _ => h1) (fun h0 => absurd h0 h)
theorem ifN0 {i j : Int} (h : i = j) (h1 : y) : @bIf (i != j) ⟨x⟩ ⟨y⟩ := ifN_of (fun h0 => absurd h h0) (fun _ => h1)
theorem idx_get {α : Type} [Inhabited α] (l : List α) (enc : α → List PV) (i : Int) (h0 : 0 ≤ i) (h : i < (l.length : Int)) : idx (l.map enc) i = some (enc (l.getD i.toNat default)) := by
  unfold idx
  rw [List.length_map, if_pos ⟨by omega, by omega⟩, List.getElem?_map, List.getElem?_eq_getElem (by omega), List.getD_eq_getElem?_getD, List.getElem?_eq_getElem (by omega)]; rfl
theorem drop_getD {α : Type} [Inhabited α] (l : List α) (i : Nat) (h : i < l.length) : l.drop i = l.getD i default :: l.drop (i + 1) := by
  rw [List.drop_eq_getElem_cons h, List.getD_eq_getElem?_getD, List.getElem?_eq_getElem h]; rfl
theorem s_of {k : α → Prop} (h : o = some a) (hk : k a) : @bS α o ⟨k⟩ := by subst h; exact hk
theorem need_of (h1 : q) (h2 : x) : @bNeed q ⟨x⟩ := ⟨h1, h2⟩
theorem know_of (h : q → x) : @bKnow q ⟨x⟩ := h
theorem nil_of {k : Bool → Prop} (h1 : es = [] → k true) (h0 : k false) : @bNil es ⟨k⟩ := fun b hb => by
  cases b
  · exact h0
  · exact h1 (hb rfl)
theorem does_then {P : Program} {f : FuncId} {args : List PV} {np : Nat} {k : PV → Mem → Prop} {R : K1 Value} (h : Does P f args m np k) : @bDoes P f args m np ⟨k⟩ R := DoesR.mono h (fun _ _ h => h) fun _ h => h.elim
theorem does_thenR {P : Program} {f : FuncId} {args : List PV} {np : Nat} {k : PV → Mem → Prop} {R : Value → Prop} (h : DoesR P f args m np k R) : @bDoes P f args m np ⟨k⟩ ⟨R⟩ := h
theorem loop_then {n : Nat} {body : KF → Tm → Mem → Prop} {live : List Nat} {K : KF} {tm : Tm} (h : LoopP n body live K tm m) : @bLoop n ⟨body⟩ live ⟨K⟩ tm m := h
end
attribute [go_sem ↓] w_S w_Int w_Bool w_Str w_Val w_ValA w_Agg w_Tup w_Fn w_Ptr w_Row w_App w_both w_RowB w_VarB w_One w_Two w_If w_Need w_Know w_Nil w_At w_Row1 w_Cells w_Part w_Fill w_Does w_DoesR w_Loop w_Join
attribute [go_sem] e_S e_S0 e_Int e_Bool e_Str e_Val e_ValA1 e_ValA2 e_Agg eqGo e_Tup e_Fn e_Ptr1 e_Ptr2 e_Ptr3 e_Row1 e_Row2 e_Row3 e_App1 e_App2 e_App3 e_App4 e_At1 e_At2 e_At3 e_Rw1 e_Rw2 e_Rw3 e_Rw4 e_Ce1 e_Ce2 e_Ce3 e_Ce4 e_Ce5 e_Ce6 e_Ce7 e_Pt1 e_Pt2 e_Fi1 e_Fi2 e_RowB e_VarB e_One e_Two e_If1 e_If0 e_Need
theorem fit_oneF {P : Program} {e : TypeId} {n : Nat} (h1 : rowSize P e = some n) (h2 : flatT P e = true) (c : List PV) : Fit P e [c] = ((c.length == n && pures c && c.all flatP) = true) := by
  simp only [Bool.and_eq_true, beq_iff_eq, List.all_eq_true, eq_iff_iff]
  constructor
  · intro h
    obtain ⟨h3, h4, h5⟩ := h c (List.mem_singleton.2 rfl)
    rw [h1] at h3
    exact ⟨⟨(Option.some.inj h3).symm, h4⟩, h5 h2⟩
  · rintro ⟨⟨h3, h4⟩, h5⟩ x hx
    obtain rfl := List.mem_singleton.1 hx
    exact ⟨by rw [h1, h3], h4, fun _ => h5⟩
theorem fit_one {P : Program} {e : TypeId} {n : Nat} (h1 : rowSize P e = some n) (h2 : flatT P e = false) (c : List PV) : Fit P e [c] = ((c.length == n && pures c) = true) := by
  simp only [Bool.and_eq_true, beq_iff_eq, eq_iff_iff]
  constructor
  · intro h
    obtain ⟨h3, h4, h5⟩ := h c (List.mem_singleton.2 rfl)
    rw [h1] at h3
    exact ⟨(Option.some.inj h3).symm, h4⟩
  · rintro ⟨h3, h4⟩ x hx
    obtain rfl := List.mem_singleton.1 hx
    exact ⟨by rw [h1, h3], h4, fun hf => by rw [h2] at hf; cases hf⟩
theorem fit_map {P : Program} {e : TypeId} {α : Type} (enc : α → List PV) (h : ∀ a, Fit P e [enc a]) (l : List α) : Fit P e (l.map enc) := by
  intro c hc
  obtain ⟨a, _, rfl⟩ := List.mem_map.1 hc
  exact h a _ (List.mem_singleton.2 rfl)
theorem bq1 (b : Bool) : (b == true) = b := by cases b <;> rfl
theorem bq2 (b : Bool) : (b == false) = !b := by cases b <;> rfl
theorem bq3 (b : Bool) (x y : Th) : @bIf (!b) x y = @bIf b y x := by cases b <;> rfl
theorem okB_l {n : Int} : okB (.int .i64 n) = decide (-9223372036854775808 ≤ n ∧ n ≤ 9223372036854775807) := by simp [okB, IntKind.min, IntKind.max, IntKind.bits, IntKind.signed]
theorem okB_lu {n : Int} : okB (.int .u64 n) = decide (0 ≤ n ∧ n ≤ 18446744073709551615) := by simp [okB, IntKind.min, IntKind.max, IntKind.bits, IntKind.signed]
theorem okB_b {b : Bool} : okB (.bool b) = true := rfl
theorem okB_n : okB (.slice none 0 0) = true := rfl
theorem okB_s {s : ByteArray} : okB (.string s) = decide (s.size ≤ 140737488355328) := rfl
section
variable {a b : Value} {k : Prop} {x y : Int}
theorem l_lss : learn .lss a b k = k := by unfold learn; split <;> first | rfl | contradiction
theorem l_leq : learn .leq a b k = k := by unfold learn; split <;> first | rfl | contradiction
theorem l_gtr : learn .gtr a b k = k := by unfold learn; split <;> first | rfl | contradiction
theorem l_geq : learn .geq a b k = k := by unfold learn; split <;> first | rfl | contradiction
theorem l_eql : learn .eql a b k = k := by unfold learn; split <;> first | rfl | contradiction
theorem l_neq : learn .neq a b k = k := by unfold learn; split <;> first | rfl | contradiction
theorem l_add : learn .add (.int .i64 x) (.int .i64 y) k = know (-9223372036854775808 ≤ x ∧ x ≤ 9223372036854775807 ∧ -9223372036854775808 ≤ y ∧ y ≤ 9223372036854775807) k := rfl
theorem l_sub : learn .sub (.int .i64 x) (.int .i64 y) k = know (-9223372036854775808 ≤ x ∧ x ≤ 9223372036854775807 ∧ -9223372036854775808 ≤ y ∧ y ≤ 9223372036854775807) k := rfl
theorem l_mul : learn .mul (.int .i64 x) (.int .i64 y) k = know (-9223372036854775808 ≤ x ∧ x ≤ 9223372036854775807 ∧ -9223372036854775808 ≤ y ∧ y ≤ 9223372036854775807) k := rfl
theorem l_quo : learn .quo (.int .i64 x) (.int .i64 y) k = know (-9223372036854775808 ≤ x ∧ x ≤ 9223372036854775807 ∧ -9223372036854775808 ≤ y ∧ y ≤ 9223372036854775807) k := rfl
theorem l_rem : learn .rem (.int .i64 x) (.int .i64 y) k = know (-9223372036854775808 ≤ x ∧ x ≤ 9223372036854775807 ∧ -9223372036854775808 ≤ y ∧ y ≤ 9223372036854775807) k := rfl
theorem l_addu : learn .add (.int .u64 x) (.int .u64 y) k = know (0 ≤ x ∧ x ≤ 18446744073709551615 ∧ 0 ≤ y ∧ y ≤ 18446744073709551615) k := rfl
theorem l_subu : learn .sub (.int .u64 x) (.int .u64 y) k = know (0 ≤ x ∧ x ≤ 18446744073709551615 ∧ 0 ≤ y ∧ y ≤ 18446744073709551615) k := rfl
theorem l_quou : learn .quo (.int .u64 x) (.int .u64 y) k = know (0 ≤ x ∧ x ≤ 18446744073709551615 ∧ 0 ≤ y ∧ y ≤ 18446744073709551615) k := rfl
theorem l_remu : learn .rem (.int .u64 x) (.int .u64 y) k = know (0 ≤ x ∧ x ≤ 18446744073709551615 ∧ 0 ≤ y ∧ y ≤ 18446744073709551615) k := rfl
theorem l_and : learn .and a b k = k := by unfold learn; split <;> first | rfl | contradiction
theorem l_shr : learn .shr a b k = k := by unfold learn; split <;> first | rfl | contradiction
theorem l_mulu : learn .mul (.int .u64 x) (.int .u64 y) k = k := rfl
theorem l_adds {s t : ByteArray} : learn .add (.string s) (.string t) k = k := rfl
theorem l1_i : learn1 (.int .i64 x) k = know (-9223372036854775808 ≤ x ∧ x ≤ 9223372036854775807) k := rfl
theorem l1_u : learn1 (.int .u64 x) k = know (0 ≤ x ∧ x ≤ 18446744073709551615) k := rfl
theorem l1_b {b : Bool} : learn1 (.bool b) k = k := rfl
end
attribute [go_sem] l_mulu u64w l_and l_shr l_adds l1_i l1_u l1_b l_lss l_leq l_gtr l_geq l_eql l_neq l_add l_sub l_mul l_quo l_rem l_addu l_subu l_quou l_remu
attribute [go_sem] okB_l okB_lu okB_b okB_n okB_s okC
attribute [go_sem] undef bq1 bq2 bq3
theorem bb1 : (true == false) = false := rfl
theorem bb2 : (false == true) = false := rfl
theorem bb3 : (true == true) = true := rfl
theorem bb4 : (false == false) = true := rfl
attribute [go_sem] List.all_nil List.all_cons bb1 bb2 bb3 bb4
theorem idx_of {α : Type} (l : List α) (enc : α → List PV) (i : Nat) (h : i < l.length) : idx (l.map enc) (i : Int) = some (enc l[i]) := by
  unfold idx
  rw [List.length_map, if_pos ⟨by omega, by omega⟩, List.getElem?_map, Int.toNat_natCast, List.getElem?_eq_getElem h]; rfl
theorem idx_at {α : Type} (l : List α) (enc : α → List PV) (i : Int) (h0 : 0 ≤ i) (h : i < (l.length : Int)) : idx (l.map enc) i = some (enc (l[i.toNat]'(by omega))) := by
  unfold idx
  rw [List.length_map, if_pos ⟨by omega, by omega⟩, List.getElem?_map, List.getElem?_eq_getElem (by omega)]; rfl
theorem wnat (i : Nat) (h : i < 9223372036854775807) : w64 ((i : Int) + 1) = ((i + 1 : Nat) : Int) := by
  rw [w64_of _ (by omega)]; omega
theorem map_get {α : Type} [Inhabited α] (l : List α) (enc : α → List PV) (i : Nat) (h : i < l.length) : (l.map enc)[i]? = some (enc (l.getD i default)) := by
  rw [List.getElem?_map, List.getElem?_eq_getElem h, List.getD_eq_getElem?_getD, List.getElem?_eq_getElem h]; rfl
theorem fit_nil {P : Program} {e : TypeId} : Fit P e [] = True := eq_true fun c hc => by cases hc
theorem fit_two {P : Program} {e : TypeId} {a b : List PV} : Fit P e [a, b] = (Fit P e [a] ∧ Fit P e [b]) := by
  apply propext; constructor
  · intro h; exact ⟨fun c hc => h c (by simp at hc; subst hc; simp), fun c hc => h c (by simp at hc; subst hc; simp)⟩
  · rintro ⟨h1, h2⟩ c hc
    simp at hc
    rcases hc with rfl | rfl
    · exact h1 _ (by simp)
    · exact h2 _ (by simp)
attribute [go_sem] fit_nil fit_two
end Go.V
