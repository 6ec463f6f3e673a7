import Derived.Deep.AppendLies
import Derived.Tactics
import Derived.Laws.StructEq
import Derived.ChangeKeysEq
import Derived.DataElems
import Derived.Below
import Derived.Great.BuildSlice
import Derived.Laws.MakeOwn
import Derived.Laws.OwnMore
set_option linter.unusedVariables false
set_option linter.unusedSimpArgs false
namespace Go.V
open Go

/-- A value that is told, whatever memory it lies in. -/
inductive PV where
  | val (x : Value)
  | any
  | sl (es : List (List PV))
  | own (b : Nat)
  | osl (b l h : Nat)
  | adr (b o : Nat)
  | ead (b i j : Nat)
  | cad (cs : List PV)
  | agg (cs : List PV)
  | tup (vs : List PV)
  | fn (f : FuncId) (caps : List PV)
inductive Blk where
  | dead
  | var (cs : List PV)
  | row (e : TypeId) (es : List (List PV))
abbrev Tm := List (Nat × PV)
abbrev Mem := List Blk
/-- A number that fits its kind; a text of some length. -/
def okB : Value → Bool
  | .int k n => decide (k.min ≤ n ∧ n ≤ k.max)
  | .string s => decide (s.size ≤ 140737488355328)
  | _ => true
def okC (x : Value) : Bool := x.oneCell' && okB x
def boolT (P : Program) (t : TypeId) : Bool := match P.underlying t with
  | some .bool => true
  | _ => false
def sliceT (P : Program) (t : TypeId) : Bool := match P.underlying t with
  | some (.slice _) => true
  | _ => false
def binV (P : Program) (t : TypeId) (op : BinOp) : Value → Value → Option Value
  | .int k a, .int k' b => if k = k' then (match op with
    | .add => some (.int k (k.wrap (a + b)))
    | .sub => some (.int k (k.wrap (a - b)))
    | .mul => some (.int k (k.wrap (a * b)))
    | .quo => if b = 0 then none else some (.int k (k.wrap (a.tdiv b)))
    | .rem => if b = 0 then none else some (.int k (a.tmod b))
    | .eql => some (.bool (a == b))
    | .neq => some (.bool (a != b))
    | .lss => some (.bool (decide (a < b)))
    | .leq => some (.bool (decide (a ≤ b)))
    | .gtr => some (.bool (decide (a > b)))
    | .geq => some (.bool (decide (a ≥ b)))
    | .shr => if k = .u64 ∧ b = 32 then some (.int k (a / 4294967296)) else if k = .u64 ∧ b = 1 then some (.int k (a / 2)) else none
    | .and => if k = .u64 ∧ b = 4294967295 then some (.int k (a % 4294967296)) else none
    | _ => none) else none
  | .bool a, .bool b => if boolT P t = true then (match op with
    | .eql => some (.bool (a == b))
    | .neq => some (.bool (a != b))
    | _ => none) else none
  | .string a, .string b => match op with
    | .eql => some (.bool (a.toList == b.toList))
    | .neq => some (.bool !(a.toList == b.toList))
    | .lss => some (.bool (Op.bytesLess a.toList b.toList))
    | .gtr => some (.bool !(Op.bytesLess a.toList b.toList || a.toList == b.toList))
    | .add => if a.size + b.size ≤ 1000000000000 then some (.string (a ++ b)) else none
    | _ => none
  | _, _ => none
def unV (op : UnOp) : Value → Option Value
  | .int k a => match op with
    | .neg => some (.int k (k.wrap (0 - a)))
    | _ => none
  | .bool b => match op with
    | .not => some (.bool !b)
    | _ => none
  | _ => none
def cut : Value → PV
  | .agg cs => if cs.toList.all okC = true then .agg (cs.toList.map .val) else .any
  | v => if okB v = true then .val v else .any
section
variable (o : Nat → PV) (s : Nat → Nat → Nat → PV) (a : Nat → Nat → PV) (e : Nat → Nat → Nat → PV) (c : List PV → PV)
mutual
/-- The same value, where a mention of one's own is told anew. -/
def tr : PV → PV
  | .own b => o b
  | .osl b l h => s b l h
  | .adr b i => a b i
  | .ead b i j => e b i j
  | .cad cs => c cs
  | .agg cs => .agg (trs cs)
  | .tup cs => .tup (trs cs)
  | .fn f cs => .fn f (trs cs)
  | .val x => .val x
  | .any => .any
  | .sl es => .sl es
def trs : List PV → List PV
  | [] => []
  | p :: l => tr p :: trs l
end
end
mutual
/-- The places of m that a value leads to. -/
def ids : PV → List Nat
  | .own b => [b]
  | .osl b _ _ => [b]
  | .adr b _ => [b]
  | .ead b _ _ => [b]
  | .agg cs => idss cs
  | .tup cs => idss cs
  | .fn _ cs => idss cs
  | _ => []
def idss : List PV → List Nat
  | [] => []
  | p :: l => ids p ++ idss l
end
mutual
/-- Told with no mention of one's own. -/
def pure : PV → Bool
  | .val _ => true
  | .any => true
  | .sl .. => true
  | .agg cs => pures cs
  | .tup cs => pures cs
  | .fn _ cs => pures cs
  | _ => false
def pures : List PV → Bool
  | [] => true
  | p :: l => pure p && pures l
end
def flatP : PV → Bool
  | .any => true
  | .val (.int _ _) => true
  | .val (.bool _) => true
  | .val (.string _) => true
  | _ => false
def scalarT (P : Program) (t : TypeId) : Bool := match P.underlying t with
  | some (.int _) => true
  | some .bool => true
  | some .string => true
  | _ => false
/-- Rows of such elements lead nowhere. -/
def flatT (P : Program) (t : TypeId) : Bool := match P.underlying t with
  | some (.struct fs) => fs.toList.all fun f => scalarT P f.type
  | _ => scalarT P t
mutual
/-- Nothing that lies in memory is told, but what is one's own. -/
def closed : PV → Bool
  | .sl _ => false
  | .cad _ => false
  | .agg cs => closeds cs
  | .tup cs => closeds cs
  | .fn _ cs => closeds cs
  | _ => true
def closeds : List PV → Bool
  | [] => true
  | p :: l => closed p && closeds l
end
def closedM (P : Program) : Mem → Bool
  | [] => true
  | .dead :: l => closedM P l
  | .var cs :: l => closeds cs && closedM P l
  | .row e _ :: l => flatT P e && closedM P l
def wipe1 (b : Nat) : PV → PV := tr (fun c => if c = b then .any else .own c) (fun c l h => if c = b then .any else .osl c l h) .adr (fun c i j => if c = b then .any else .ead c i j) .cad
def wipeT (b : Nat) : Tm → Tm
  | [] => []
  | (t, p) :: l => (t, wipe1 b p) :: wipeT b l
def wipeM (b : Nat) : Mem → Mem
  | [] => []
  | .var cs :: l => .var (cs.map (wipe1 b)) :: wipeM b l
  | x :: l => x :: wipeM b l
/-- A cell of a variable that is lent: pointers are not told. -/
def seen0 (m : Mem) : PV → PV := tr (fun c => match m[c]? with | some (.row _ es) => .sl es | _ => .any) (fun c l h => match m[c]? with | some (.row _ es) => .sl ((es.take h).drop l) | _ => .any) (fun _ _ => .any) (fun _ _ _ => .any) (fun _ => .any)
/-- The places of m, and those that the variables among them lead to. -/
def deepGo (m : Mem) : List Nat → List Nat
  | [] => []
  | b :: l => (match m[b]? with | some (.var cs) => idss cs | _ => []) ++ deepGo m l
def deep (m : Mem) (bs : List Nat) : List Nat := bs ++ deepGo m bs
def isEad : PV → Bool
  | .ead _ _ _ => true
  | .val _ => false
  | .any => false
  | .sl _ => false
  | .own _ => false
  | .osl _ _ _ => false
  | .adr _ _ => false
  | .cad _ => false
  | .agg _ => false
  | .tup _ => false
  | .fn _ _ => false
def nilV : Value → Bool
  | .slice none 0 0 => true
  | _ => false
def nilP : PV → Bool
  | .ead _ _ _ => false
  | .val v => nilV v
  | .any => false
  | .sl _ => false
  | .own _ => false
  | .osl _ _ _ => false
  | .adr _ _ => false
  | .cad _ => false
  | .agg _ => false
  | .tup _ => false
  | .fn _ _ => false
def none0 : List Nat → Bool
  | [] => true
  | _ :: _ => false
def both (x y : Prop) : Prop := x ∧ y
/-- What is one's own, seen as what is only read. -/
def seen (m : Mem) : PV → PV := tr (fun c => match m[c]? with | some (.row _ es) => .sl es | _ => .any) (fun c l h => match m[c]? with | some (.row _ es) => .sl ((es.take h).drop l) | _ => .any)
  (fun c i => match m[c]? with | some (.var cs) => .cad ((cs.map (seen0 m)).drop i) | _ => .any)
  (fun c i j => match m[c]? with | some (.row _ es) => (match es[i]? with | some x => .cad (x.drop j) | none => .any) | _ => .any) .cad
def get : Tm → Nat → PV
  | [], _ => .any
  | (k, p) :: l, t => if k = t then p else get l t
def ev (tm : Tm) : Operand → PV
  | .tmp t => get tm t
  | .const v => cut v
  | .func f => .fn f []
  | .global _ => .any
def put (tm : Tm) : Option Tmp → PV → Tm
  | some t, p => (t, p) :: tm
  | none, _ => tm
def loadC (P : Program) (t : TypeId) (cs : List PV) : Option PV :=
  match P.underlying t, P.info? t with
  | some (.struct _), some i => if i.size ≤ cs.length then some (.agg (cs.take i.size)) else none
  | some (.array _ _), _ => none
  | some _, some _ => cs.head?
  | _, _ => none
def idx (es : List (List PV)) (i : Int) : Option (List PV) := if 0 ≤ i ∧ i < es.length then es[i.toNat]? else none
def fieldOff (P : Program) (s : TypeId) (f : Nat) : Option Nat :=
  match P.underlying s with
  | some (.struct fs) => match fs[f]? with
    | some x => match P.info? x.type with
      | some i => if i.size = 0 then none else some x.offset
      | none => none
    | none => none
  | _ => none
/-- The rows of bs are one's own no more. -/
def frz1 (bs : List Nat) (m : Mem) : PV → PV := tr (fun c => if bs.contains c = true then seen m (.own c) else .own c) (fun c l h => if bs.contains c = true then seen m (.osl c l h) else .osl c l h) .adr (fun c i j => if bs.contains c = true then seen m (.ead c i j) else .ead c i j) .cad
def frzT (bs : List Nat) (m : Mem) : Tm → Tm
  | [] => []
  | (t, p) :: l => (t, frz1 bs m p) :: frzT bs m l
def frzM (bs : List Nat) (m : Mem) : Nat → Mem → Mem
  | _, [] => []
  | c, .var cs :: l => .var (cs.map (frz1 bs m)) :: frzM bs m (c + 1) l
  | c, .row e es :: l => (if bs.contains c = true then .dead else .row e es) :: frzM bs m (c + 1) l
  | c, .dead :: l => .dead :: frzM bs m (c + 1) l
def rowSize (P : Program) (e : TypeId) : Option Nat :=
  match P.info? e with
  | some i => match i.zero with
    | some z => if z.cells.size = i.size ∧ 0 < i.size ∧ i.size ≤ 10000 ∧ i.bytes ≤ 100000 then some i.size else none
    | none => none
  | none => none
def elemOf (P : Program) (t : TypeId) : Option TypeId :=
  match P.underlying t with
  | some (.slice e) => some e
  | _ => none
def elemSize (P : Program) (t : TypeId) : Option Nat := (elemOf P t).bind fun e => (P.info? e).map (·.size)
/-- A row's element, as it must be. -/
def FitC (P : Program) (e : TypeId) (c : List PV) : Prop := rowSize P e = some c.length ∧ pures c = true ∧ (flatT P e = true → ∀ p ∈ c, flatP p = true)
def Fit (P : Program) (e : TypeId) (es : List (List PV)) : Prop := ∀ c ∈ es, FitC P e c
def onS {α : Type} (o : Option α) (k : α → Prop) : Prop := match o with
  | some a => k a
  | none => False
def onInt (p : PV) (k : IntKind → Int → Prop) : Prop := match p with
  | .val (.int kd n) => k kd n
  | _ => False
def onBool (p : PV) (k : Bool → Prop) : Prop := match p with
  | .val (.bool b) => k b
  | _ => False
def onStr (p : PV) (k : ByteArray → Prop) : Prop := match p with
  | .val (.string s) => k s
  | _ => False
def onVal (p : PV) (k : Value → Prop) : Prop := match p with
  | .val x => k x
  | _ => False
/-- A value of one cell, or a struct. -/
def onValA (p : PV) (k : Value → Prop) (ka : List PV → Prop) : Prop := match p with
  | .val x => k x
  | .agg cs => ka cs
  | _ => False
def onAgg (p : PV) (k : List PV → Prop) : Prop := match p with
  | .agg cs => k cs
  | _ => False
/-- Where the cells of a struct of plain fields lie, and of which kind they are. -/
def eqShape (P : Program) (t : TypeId) : Option (List (Nat × Nat)) := match P.underlying t with
  | some (.struct fs) => if P.stoodInHeld t = false ∧ P.eqGuardType P.depth t = false then fs.toList.mapM fun f => if f.name = "_" then none else match P.underlying f.type with
    | some (.int _) => some (f.offset, 0)
    | some .bool => some (f.offset, 1)
    | some .string => some (f.offset, 2)
    | _ => none
    else none
  | _ => none
def eqGo : List (Nat × Nat) → List PV → List PV → Option Bool
  | [], _, _ => some true
  | (o, 0) :: l, cs, ds => match cs[o]?, ds[o]? with
    | some (.val (.int k a)), some (.val (.int k' b)) => if k = k' then (eqGo l cs ds).map ((a == b) && ·) else none
    | _, _ => none
  | (o, 1) :: l, cs, ds => match cs[o]?, ds[o]? with
    | some (.val (.bool a)), some (.val (.bool b)) => (eqGo l cs ds).map ((a == b) && ·)
    | _, _ => none
  | (o, 2) :: l, cs, ds => match cs[o]?, ds[o]? with
    | some (.val (.string a)), some (.val (.string b)) => (eqGo l cs ds).map ((a.toList == b.toList) && ·)
    | _, _ => none
  | _ :: _, _, _ => none
def onTup (p : PV) (k : List PV → Prop) : Prop := match p with
  | .tup vs => k vs
  | _ => False
def onFn (p : PV) (k : FuncId → List PV → Prop) : Prop := match p with
  | .fn g caps => k g caps
  | _ => False
def onPtr (p : PV) (ka : Nat → Nat → Prop) (ke : Nat → Nat → Nat → Prop) (kc : List PV → Prop) : Prop := match p with
  | .adr b o => ka b o
  | .ead b i j => ke b i j
  | .cad cs => kc cs
  | _ => False
def onRow (p : PV) (ks : List (List PV) → Prop) (ko : Nat → Prop) (kl : Nat → Nat → Nat → Prop) : Prop := match p with
  | .sl es => ks es
  | .own b => ko b
  | .osl b l h => kl b l h
  | _ => False
def onApp (p : PV) (ko : Nat → Prop) (kl : Nat → Nat → Prop) (kn : Prop) (kq : Nat → Nat → Nat → Prop) : Prop := match p with
  | .own b => ko b
  | .osl b 0 h => kl b h
  | .osl b (l + 1) h => kq b (l + 1) h
  | .val (.slice none 0 0) => kn
  | _ => False
def onRowB (o : Option Blk) (k : TypeId → List (List PV) → Prop) : Prop := match o with
  | some (.row e es) => k e es
  | _ => False
def onVarB (o : Option Blk) (k : List PV → Prop) : Prop := match o with
  | some (.var cs) => k cs
  | _ => False
def onOne {α : Type} (l : List α) (k : α → Prop) : Prop := match l with
  | [x] => k x
  | _ => False
def onTwo {α : Type} (l : List α) (k : α → α → Prop) : Prop := match l with
  | [x, y] => k x y
  | _ => False
def ifB (b : Bool) (x y : Prop) : Prop := if b = true then x else y
def need (p k : Prop) : Prop := p ∧ k
def know (p k : Prop) : Prop := p → k
def nilQ (es : List (List PV)) (k : Bool → Prop) : Prop := ∀ b : Bool, (b = true → es = []) → k b
theorem onS_e {α : Type} {o : Option α} {k : α → Prop} (h : onS o k) : ∃ a, o = some a ∧ k a := by unfold onS at h; split at h <;> first | exact ⟨_, rfl, h⟩ | exact h.elim
theorem onInt_e {p : PV} {k : IntKind → Int → Prop} (h : onInt p k) : ∃ kd n, p = .val (.int kd n) ∧ k kd n := by unfold onInt at h; split at h <;> first | exact ⟨_, _, rfl, h⟩ | exact h.elim
theorem onBool_e {p : PV} {k : Bool → Prop} (h : onBool p k) : ∃ b, p = .val (.bool b) ∧ k b := by unfold onBool at h; split at h <;> first | exact ⟨_, rfl, h⟩ | exact h.elim
theorem onStr_e {p : PV} {k : ByteArray → Prop} (h : onStr p k) : ∃ b, p = .val (.string b) ∧ k b := by unfold onStr at h; split at h <;> first | exact ⟨_, rfl, h⟩ | exact h.elim
theorem onVal_e {p : PV} {k : Value → Prop} (h : onVal p k) : ∃ x, p = .val x ∧ k x := by unfold onVal at h; split at h <;> first | exact ⟨_, rfl, h⟩ | exact h.elim
theorem onValA_e {p : PV} {k : Value → Prop} {ka : List PV → Prop} (h : onValA p k ka) : (∃ x, p = .val x ∧ k x) ∨ ∃ cs, p = .agg cs ∧ ka cs := by unfold onValA at h; split at h <;> first | exact .inl ⟨_, rfl, h⟩ | exact .inr ⟨_, rfl, h⟩ | exact h.elim
theorem onAgg_e {p : PV} {k : List PV → Prop} (h : onAgg p k) : ∃ cs, p = .agg cs ∧ k cs := by unfold onAgg at h; split at h <;> first | exact ⟨_, rfl, h⟩ | exact h.elim
theorem onTup_e {p : PV} {k : List PV → Prop} (h : onTup p k) : ∃ x, p = .tup x ∧ k x := by unfold onTup at h; split at h <;> first | exact ⟨_, rfl, h⟩ | exact h.elim
theorem onFn_e {p : PV} {k : FuncId → List PV → Prop} (h : onFn p k) : ∃ g x, p = .fn g x ∧ k g x := by unfold onFn at h; split at h <;> first | exact ⟨_, _, rfl, h⟩ | exact h.elim
theorem onRowB_e {o : Option Blk} {k : TypeId → List (List PV) → Prop} (h : onRowB o k) : ∃ e es, o = some (.row e es) ∧ k e es := by unfold onRowB at h; split at h <;> first | exact ⟨_, _, rfl, h⟩ | exact h.elim
theorem onVarB_e {o : Option Blk} {k : List PV → Prop} (h : onVarB o k) : ∃ cs, o = some (.var cs) ∧ k cs := by unfold onVarB at h; split at h <;> first | exact ⟨_, rfl, h⟩ | exact h.elim
theorem onOne_e {α : Type} {l : List α} {k : α → Prop} (h : onOne l k) : ∃ x, l = [x] ∧ k x := by unfold onOne at h; split at h <;> first | exact ⟨_, rfl, h⟩ | exact h.elim
theorem onTwo_e {α : Type} {l : List α} {k : α → α → Prop} (h : onTwo l k) : ∃ x y, l = [x, y] ∧ k x y := by unfold onTwo at h; split at h <;> first | exact ⟨_, _, rfl, h⟩ | exact h.elim
def at1 (m : Mem) : PV → (List PV → Prop) → Prop
  | .adr b o, k => onVarB m[b]? fun cs => k (cs.drop o)
  | .ead b i j, k => onRowB m[b]? fun _ es => onS es[i]? fun e => k (e.drop j)
  | .cad cs, k => k cs
  | _, _ => False
def row1 (m : Mem) : PV → (List (List PV) → Prop) → Prop
  | .sl es, k => k es
  | .own b, k => onRowB m[b]? fun _ es => k es
  | .osl b l h, k => onRowB m[b]? fun _ es => k ((es.take h).drop l)
  | .val (.slice none 0 0), k => k []
  | _, _ => False
/-- The cells of a value that may lie in a block. -/
def cells (p : PV) (k : List PV → Prop) : Prop := match p with
  | .agg cs => k cs
  | .val x => need (x.oneCell' = true) (k [.val x])
  | .any | .tup _ => False
  | p => k [p]
def partCells : List PV → (List (List PV) → Prop) → Prop
  | [], k => k []
  | p :: l, k => cells p fun c => partCells l fun cs => k (c :: cs)
def splice {α : Type} (l : List α) (o : Nat) (ns : List α) : List α := l.take o ++ (ns ++ l.drop (o + ns.length))
def sizeT (P : Program) (t : TypeId) : Option Nat := (P.info? t).map (·.size)
/-- Where the fields of a struct lie, and its zero. -/
def layout (P : Program) (t : TypeId) : Option (List (Nat × Nat) × List Value) :=
  match P.underlying t, (P.info? t).bind (·.zero) with
  | some (.struct fs), some z => match fs.toList.mapM fun f => (P.info? f.type).map fun i => (f.offset, i.size) with
    | some pl => if z.cells.toList.all okC = true then some (pl, z.cells.toList) else none
    | none => none
  | _, _ => none
/-- A zero as an element of a new row: no rows are as an empty one. -/
def zrP (v : Value) : PV := match v with
  | .slice none 0 0 => .sl []
  | v => .val v
def zeroOf (P : Program) (t : TypeId) : Option (List Value) :=
  match (P.info? t).bind (·.zero) with
  | some z => if z.cells.toList.all okC = true then some z.cells.toList else none
  | none => none
def fillB (pl : List (Nat × Nat)) : List PV → List (Nat × PV) → (List PV → Prop) → Prop
  | cs, [], k => k cs
  | cs, (i, p) :: l, k => onS pl[i]? fun x => cells p fun ns => need (ns.length = x.2 ∧ x.1 + ns.length ≤ cs.length) (fillB pl (splice cs x.1 ns) l k)
def intT (P : Program) (s t : TypeId) : Option IntKind := match P.underlying s, P.underlying t with
  | some _, some (.int k) => some k
  | _, _ => none
/-- A bound of a slice. -/
def bound (z : Int) : Option PV → Option Int
  | none => some z
  | some (.val (.int _ n)) => some n
  | _ => none
def seqFrom : Nat → List (Nat × Operand) → Bool
  | _, [] => true
  | i, (j, _) :: l => i == j && seqFrom (i + 1) l
/-! places of m by other numbers -/
def pos (n : Nat) (es : List Nat) (b : Nat) : Option Nat := if b < n then some b else (es.idxOf? b).map (· + n)
def ren (σ : Nat → Option Nat) (kc : Bool) : PV → PV := tr (fun b => match σ b with | some c => .own c | none => .any) (fun b l h => match σ b with | some c => .osl c l h | none => .any)
  (fun b i => match σ b with | some c => .adr c i | none => .any) (fun b i j => match σ b with | some c => .ead c i j | none => .any) (fun cs => if kc = true then .cad cs else .any)
def renB (σ : Nat → Option Nat) (kc : Bool) : Blk → Blk
  | .var cs => .var (cs.map (ren σ kc))
  | x => x
def dd : List Nat → List Nat → List Nat
  | acc, [] => acc
  | acc, b :: l => if acc.contains b = true then dd acc l else dd (acc ++ [b]) l
def above (n : Nat) : List Nat → List Nat
  | [] => []
  | b :: l => if b < n then above n l else b :: above n l
def cellIds (m : Mem) : List Nat → List Nat
  | [] => []
  | b :: l => (match m[b]? with | some (.var cs) => idss cs | _ => []) ++ cellIds m l
def fore (m : Mem) : Nat → List Nat
  | 0 => []
  | n + 1 => fore m n ++ (match m[n]? with | some (.var cs) => idss cs | _ => [])
/-- The places that are reached, each once. -/
def reach (n : Nat) (m : Mem) (ps : List PV) : List Nat :=
  let es := dd [] (above n (fore m n ++ idss ps))
  dd es (above n (cellIds m es))
def canonM (n : Nat) (m : Mem) (es : List Nat) (kc : Bool) : Mem := (m.take n).map (renB (pos n es) kc) ++ es.map fun b => renB (pos n es) kc (m[b]?.getD .dead)
def keep (tm : Tm) : List Nat → Tm
  | [] => []
  | t :: l => (t, get tm t) :: keep tm l
def vals : Tm → List PV
  | [] => []
  | (_, p) :: l => p :: vals l
def renT (σ : Nat → Option Nat) (kc : Bool) : Tm → Tm
  | [] => []
  | (t, p) :: l => (t, ren σ kc p) :: renT σ kc l
/-- The state at the head of a loop, where just some slots live on. -/
def head (n : Nat) (live : List Nat) (tm : Tm) (m : Mem) (X : Tm → Mem → Prop) : Prop :=
  X (renT (pos n (reach n m (vals (keep tm live)))) true (keep tm live)) (canonM n m (reach n m (vals (keep tm live))) true)
/-- The state where a function ends. -/
def fin (n : Nat) (m : Mem) (p : PV) (Q : PV → Mem → Prop) : Prop := Q (ren (pos n (reach n m [p])) false p) (canonM n m (reach n m [p]) false)
def shift (n : Nat) : Nat → Option Nat := fun b => some (b + n)
/-- The orders of a region's operations that are walked. -/
inductive Tr where
  | nil
  | one (k : Nat) (t : Tr)
  | alt (s t : Tr)
inductive Ex where
  | normal | exit (id : Nat) | ret | pan (v : Value)
abbrev KF := Ex → Tm → Mem → Prop
def leave (id : Nat) (K : KF) : KF := fun e tm m => match e with | .exit i => if i = id then K .normal tm m else K (.exit i) tm m | e => K e tm m
def andThen (K1 : Tm → Mem → Prop) (K : KF) : KF := fun e tm m => match e with | .normal => K1 tm m | e => K e tm m
def number : Nat → List PV → Tm
  | _, [] => []
  | k, p :: ps => (k, p) :: number (k + 1) ps
def slots : List (Nat × List Nat) → Nat → List Nat
  | [], _ => []
  | (k, x) :: l, f => if k = f then x else slots l f
def boolOf (want : Bool) : PV → Option Bool
  | .val (.bool b) => some (b == want)
  | .val (.tuple _) => some false
  | _ => none
def dstAt : List Oper → Nat → Option Tmp
  | [], _ => none
  | o :: _, 0 => o.dst
  | _ :: l, j + 1 => dstAt l j
def toldAt (tm : Tm) (want : Bool) : Option Tmp → Option Bool
  | some t => boolOf want (get tm t)
  | none => none
/-- Is an operation wanted that waits for another one's result? -/
def told (ops : Array Oper) (tm : Tm) (j : Nat) (want : Bool) : Option Bool := toldAt tm want (dstAt ops.toList j)
end Go.V
set_option linter.unusedVariables false
set_option linter.unusedSimpArgs false
namespace Go.V
open Go

def own1 : Value → Option Nat
  | .pointer (some a) => some a.block
  | .slice (some a) _ _ => some a.block
  | _ => none
def Live (m : Mem) (b : Nat) : Prop := ∃ x, m[b]? = some x ∧ x ≠ .dead
/-- The blocks that are one's own: what is told of them stands in m alone. -/
def Own (m : Mem) (ρ : Nat → Value) (k : Nat) : Prop := ∃ b, Live m b ∧ own1 (ρ b) = some k
def Mine (M : Nat → Prop) (m : Mem) (ρ : Nat → Value) (k : Nat) : Prop := M k ∨ Own m ρ k

/-- What is only read: none of it lies in N. -/
inductive Im (w : World) (N : Nat → Prop) : PV → Value → Prop where
  | val {x : Value} : okB x = true → Im w N (.val x) x
  | any {v : Value} : Im w N .any v
  | sl {es : List (List PV)} {A : Option Addr} {n c sz : Nat} (u : Nat → Nat → Value) (hn : es.length = n) (hx : n ≤ maxLen) (hc : n ≤ c) (hs : ∀ e ∈ es, e.length = sz)
      (hA : n = 0 ∨ ∃ ad, A = some ad ∧ ∀ (i j : Nat) (e : List PV) (p : PV), es[i]? = some e → e[j]? = some p → w.cell? (ad.add (i * sz + j)) = some (u i j) ∧ ¬ N ad.block ∧ (u i j).oneCell' = true)
      (hr : ∀ (i j : Nat) (e : List PV) (p : PV), es[i]? = some e → e[j]? = some p → Im w N p (u i j)) : Im w N (.sl es) (.slice A n c)
  | agg {cs : List PV} {vs : Array Value} : cs.length = vs.size → (∀ (i : Nat) (p : PV) (v : Value), cs[i]? = some p → vs[i]? = some v → Im w N p v) → (∀ v ∈ vs, v.oneCell' = true) → Im w N (.agg cs) (.agg vs)
  | tup {cs : List PV} {vs : Array Value} : cs.length = vs.size → (∀ (i : Nat) (p : PV) (v : Value), cs[i]? = some p → vs[i]? = some v → Im w N p v) → Im w N (.tup cs) (.tuple vs)
  | fn {f : FuncId} {cs : List PV} {vs : Array Value} : cs.length = vs.size → (∀ (i : Nat) (p : PV) (v : Value), cs[i]? = some p → vs[i]? = some v → Im w N p v) → Im w N (.fn f cs) (.func (.func f) #[] vs)

/-- What changed between two worlds lies in N. -/
structure Mv (N : Nat → Prop) (w w' : World) : Prop where
  size : w.heap.size ≤ w'.heap.size
  block : ∀ k, k < w.heap.size → ¬ N k → w'.heap[k]? = w.heap[k]?
theorem Mv.cell {N : Nat → Prop} {w w' : World} (h : Mv N w w') {a : Addr} {v : Value} (hc : w.cell? a = some v) (hN : ¬ N a.block) : w'.cell? a = some v :=
  (World.cell?_of_block (h.block a.block (World.block_lt_of_cell? w a hc) hN)).trans hc
theorem Mv.mono {N N' : Nat → Prop} {w w' : World} (h : Mv N w w') (hN : ∀ k, N k → N' k) : Mv N' w w' := ⟨h.size, fun k hk hn => h.block k hk fun hh => hn (hN k hh)⟩
theorem Mv.refl (N : Nat → Prop) (w : World) : Mv N w w := ⟨Nat.le_refl _, fun _ _ _ => rfl⟩
theorem Mv.alloc (N : Nat → Prop) (w : World) (o : Obj) : Mv N w (w.alloc o) := ⟨by simp, fun k hk _ => heap_alloc_old w o k hk⟩
theorem add_block (a : Addr) (n : Nat) : (a.add n).block = a.block := by unfold Addr.add; split <;> rfl
theorem add_none (g o j : Nat) : (⟨g, o, none⟩ : Addr).add j = ⟨g, o + j, none⟩ := by unfold Addr.add; split <;> simp_all
theorem Im.move {w w' : World} {N N' : Nat → Prop} {p : PV} {v : Value} (h : Im w N p v) (hm : Mv N w w') (hN : ∀ k, k < w.heap.size → N' k → N k) : Im w' N' p v := by
  induction h with
  | val h => exact .val h
  | any => exact .any
  | sl u hn hx hc hs hA hr ih =>
    refine .sl u hn hx hc hs ?_ ih
    rcases hA with h | ⟨ad, rfl, h⟩
    · exact .inl h
    · refine .inr ⟨ad, rfl, fun i j e p he hp => ?_⟩
      obtain ⟨h1, h2, h3⟩ := h i j e p he hp
      have hlt : ad.block < w.heap.size := by have := World.block_lt_of_cell? w _ h1; rwa [add_block] at this
      exact ⟨hm.cell h1 (by rw [add_block]; exact h2), fun hn' => h2 (hN _ hlt hn'), h3⟩
  | agg hl _ h1 ih => exact .agg hl ih h1
  | tup hl _ ih => exact .tup hl ih
  | fn hl _ ih => exact .fn hl ih
theorem Im.sub {w : World} {N N' : Nat → Prop} {p : PV} {v : Value} (h : Im w N p v) (hN : ∀ k, N' k → N k) : Im w N' p v := h.move (Mv.refl N w) (fun k _ hk => hN k hk)

inductive Rep (M : Nat → Prop) (w : World) (m : Mem) (ρ : Nat → Value) : PV → Value → Prop where
  | im {p : PV} {v : Value} : Im w (Mine M m ρ) p v → Rep M w m ρ p v
  | own {b : Nat} {e : TypeId} {es : List (List PV)} : m[b]? = some (.row e es) → Rep M w m ρ (.own b) (ρ b)
  | osl0 {b h n c : Nat} {A : Option Addr} {e : TypeId} {es : List (List PV)} : m[b]? = some (.row e es) → h ≤ es.length → ρ b = .slice A n c → Rep M w m ρ (.osl b 0 h) (.slice A h c)
  | osl {b l h c n c' sz g : Nat} {A : Option Addr} {e : TypeId} {es : List (List PV)} : m[b]? = some (.row e es) → 0 < l → l ≤ h → h ≤ es.length → h - l ≤ c → c ≤ maxLen → (∀ x ∈ es, x.length = sz) → (c = 0 ∨ A = some ⟨g, l * sz, none⟩) ∧ ρ b = .slice (some ⟨g, 0, none⟩) n c' ∧ c' = c + l → Rep M w m ρ (.osl b l h) (.slice A (h - l) c)
  | adr {b o g : Nat} {cs : List PV} : m[b]? = some (.var cs) → ρ b = .pointer (some ⟨g, 0, none⟩) → Rep M w m ρ (.adr b o) (.pointer (some ⟨g, o, none⟩))
  | ead {b i j g n c sz : Nat} {e : TypeId} {es : List (List PV)} : m[b]? = some (.row e es) → i < es.length → (∀ x ∈ es, x.length = sz) → ρ b = .slice (some ⟨g, 0, none⟩) n c → Rep M w m ρ (.ead b i j) (.pointer (some ⟨g, i * sz + j, none⟩))
  | cad {cs : List PV} {a : Addr} (u : Nat → Value) : (∀ (j : Nat) (p : PV), cs[j]? = some p → w.cell? (a.add j) = some (u j) ∧ ¬ Own m ρ a.block ∧ (u j).oneCell' = true) → (∀ (j : Nat) (p : PV), cs[j]? = some p → Im w (Mine M m ρ) p (u j)) → Rep M w m ρ (.cad cs) (.pointer (some a))
  | agg {cs : List PV} {vs : Array Value} : cs.length = vs.size → (∀ (i : Nat) (p : PV) (v : Value), cs[i]? = some p → vs[i]? = some v → Rep M w m ρ p v) → (∀ v ∈ vs, v.oneCell' = true) → Rep M w m ρ (.agg cs) (.agg vs)
  | tup {cs : List PV} {vs : Array Value} : cs.length = vs.size → (∀ (i : Nat) (p : PV) (v : Value), cs[i]? = some p → vs[i]? = some v → Rep M w m ρ p v) → Rep M w m ρ (.tup cs) (.tuple vs)
  | fn {f : FuncId} {cs : List PV} {vs : Array Value} : cs.length = vs.size → (∀ (i : Nat) (p : PV) (v : Value), cs[i]? = some p → vs[i]? = some v → Rep M w m ρ p v) → Rep M w m ρ (.fn f cs) (.func (.func f) #[] vs)

theorem Mv.mine {M : Nat → Prop} {w w' : World} {m : Mem} {ρ : Nat → Value} (h : Mv (Own m ρ) w w') : Mv (Mine M m ρ) w w' := h.mono fun _ hk => .inr hk
theorem Rep.cad_move {M M' : Nat → Prop} {w w' : World} {m m' : Mem} {ρ ρ' : Nat → Value} {cs : List PV} {v : Value} (h : Rep M w m ρ (.cad cs) v) (hm : Mv (Own m ρ) w w') (hO : ∀ k, k < w.heap.size → Own m' ρ' k → Own m ρ k) (hN : ∀ k, k < w.heap.size → Mine M' m' ρ' k → Mine M m ρ k) : Rep M' w' m' ρ' (.cad cs) v := by
  cases h with
  | im h => cases h
  | cad u h hi =>
    refine .cad u (fun j p hj => ?_) (fun j p hj => (hi j p hj).move hm.mine hN)
    obtain ⟨h1, h2, h3⟩ := h j p hj
    have hlt := World.block_lt_of_cell? w _ h1
    rw [add_block] at hlt
    exact ⟨hm.cell h1 (by rw [add_block]; exact h2), fun hn' => h2 (hO _ hlt hn'), h3⟩
/-- The same things, in a later world, where more may be one's own. -/
theorem Rep.move {M M' : Nat → Prop} {w w' : World} {m m' : Mem} {ρ ρ' : Nat → Value} {p : PV} {v : Value} (h : Rep M w m ρ p v) (hm : Mv (Own m ρ) w w') (hO : ∀ k, k < w.heap.size → Own m' ρ' k → Own m ρ k) (hN : ∀ k, k < w.heap.size → Mine M' m' ρ' k → Mine M m ρ k)
    (hr : ∀ b e es, m[b]? = some (.row e es) → ρ' b = ρ b ∧ ∃ e' es', m'[b]? = some (.row e' es') ∧ es'.length = es.length ∧ ∀ sz, (∀ x ∈ es, x.length = sz) → ∀ x ∈ es', x.length = sz)
    (hv : ∀ b cs, m[b]? = some (.var cs) → ρ' b = ρ b ∧ ∃ cs', m'[b]? = some (.var cs')) : Rep M' w' m' ρ' p v := by
  induction h with
  | im h => exact .im (h.move hm.mine hN)
  | own h => obtain ⟨h1, _, _, h2, _⟩ := hr _ _ _ h; rw [← h1]; exact .own h2
  | osl0 h hl hg => obtain ⟨h1, _, _, h2, h3, _⟩ := hr _ _ _ h; exact .osl0 h2 (by omega) (h1.trans hg)
  | osl h h0 hl hh hc hx hs hg => obtain ⟨h1, _, _, h2, h3, h4⟩ := hr _ _ _ h; exact .osl h2 h0 hl (by omega) hc hx (h4 _ hs) ⟨hg.1, h1.trans hg.2.1, hg.2.2⟩
  | adr h hg => obtain ⟨h1, _, h2⟩ := hv _ _ h; exact .adr h2 (h1.trans hg)
  | ead h hi hs hg => obtain ⟨h1, _, _, h2, h3, h4⟩ := hr _ _ _ h; exact .ead h2 (by omega) (h4 _ hs) (h1.trans hg)
  | cad u h hi => exact (Rep.cad u h hi).cad_move hm hO hN
  | agg hl _ h1 ih => exact .agg hl ih h1
  | tup hl _ ih => exact .tup hl ih
  | fn hl _ ih => exact .fn hl ih

/-- What stands at one place of m. -/
inductive BlkOk (P : Program) (M : Nat → Prop) (w : World) (m : Mem) (ρ : Nat → Value) : Value → Blk → Prop where
  | dead {v : Value} : BlkOk P M w m ρ v .dead
  | var {g : Nat} {t : TypeId} {vs : Array Value} {cs : List PV} : w.heap[g]? = some (.cells vs t (0, 0)) → cs.length = vs.size → (∀ (j : Nat) (p : PV) (v : Value), cs[j]? = some p → vs[j]? = some v → Rep M w m ρ p v) → (∀ v ∈ vs, v.oneCell' = true) → BlkOk P M w m ρ (.pointer (some ⟨g, 0, none⟩)) (.var cs)
  | row {v : Value} {e : TypeId} {es : List (List PV)} {xs : List Value} {i : TypeInfo} {z : Value} : P.info? e = some i → i.zero = some z → z.cells.size = i.size → 0 < i.size → i.bytes ≤ 100000 → es.length ≤ 1000000000 → w.ownsRow 0 e i.size v es.length xs → (∀ x ∈ es, x.length = i.size) → (flatT P e = true → ∀ x ∈ es, ∀ p ∈ x, flatP p = true) →
      (∀ (q j : Nat) (x : List PV) (p : PV), es[q]? = some x → x[j]? = some p → ∃ u, xs[q * i.size + j]? = some u ∧ Im w (Mine M m ρ) p u) → (∀ u ∈ xs, u.oneCell' = true) → BlkOk P M w m ρ v (.row e es)

structure Fr (S : Nat → Prop) (w w' : World) : Prop where
  os : w'.os = w.os
  tape : w'.tape = w.tape
  output : w'.output = w.output
  size : w.heap.size ≤ w'.heap.size
  block : ∀ k, k < w.heap.size → ¬ S k → w'.heap[k]? = w.heap[k]?
theorem Fr.mv {S : Nat → Prop} {w w' : World} (h : Fr S w w') : Mv S w w' := ⟨h.size, h.block⟩
/-- What stays the same in a function: the program, others' blocks, the world at its start, the blocks that it may turn, its places and its first places of m. -/
structure Cx where
  P : Program
  M : Nat → Prop
  w0 : World
  S : Nat → Prop
  N : Nat
  n : Nat
  np : Nat
  m0 : Mem
  ρ0 : Nat → Value
  D : List Deferred
  kd : Nat → Bool
structure Foot (c : Cx) (m : Mem) (ρ : Nat → Value) : Prop where
  len : c.n ≤ m.length
  var : ∀ b cs, b < c.n → c.m0[b]? = some (.var cs) → ρ b = c.ρ0 b ∧ ∃ cs', m[b]? = some (.var cs')
  row : ∀ b e es, b < c.n → c.m0[b]? = some (.row e es) → m[b]? = some .dead ∨ ((b < c.np → ρ b = c.ρ0 b) ∧ ∃ e' es', m[b]? = some (.row e' es'))
  dead : ∀ b, b < c.n → c.m0[b]? = some .dead → m[b]? = some .dead
structure Inv (c : Cx) (tm : Tm) (m : Mem) (ρ : Nat → Value) (a : Act) (w : World) : Prop where
  sz : a.tmps.size = c.N
  df : a.defers = c.D
  tm : ∀ t, Rep c.M w m ρ (get tm t) (a.tmps.getD t undef)
  blk : ∀ b x, m[b]? = some x → BlkOk c.P c.M w m ρ (ρ b) x
  sep : ∀ b b' k, Live m b → Live m b' → own1 (ρ b) = some k → own1 (ρ b') = some k → b = b'
  new : ∀ b k, Live m b → own1 (ρ b) = some k → c.w0.heap.size ≤ k ∨ c.S k
  fr : Fr c.S c.w0 w
  old : ∀ k, c.M k → k < c.w0.heap.size
  dis : ∀ k, c.S k → ¬ c.M k
  ft : Foot c m ρ
theorem get_put (tm : Tm) (d t : Nat) (p : PV) : get (put tm (some d) p) t = if d = t then p else get tm t := rfl
theorem getD_put (a : Act) (d t : Nat) (v : Value) (hd : d < a.tmps.size) : (a.put (some d) v).tmps.getD t undef = if d = t then v else a.tmps.getD t undef := by
  simp only [Act.put, Array.getD_eq_getD_getElem?]
  by_cases h : d = t
  · subst h; simp [hd]
  · rw [if_neg h, Array.getElem?_setIfInBounds_ne h]
theorem lt_of_get {α : Type} {l : List α} {b : Nat} {x : α} (h : l[b]? = some x) : b < l.length := by
  rcases Nat.lt_or_ge b l.length with h1 | h1
  · exact h1
  · rw [List.getElem?_eq_none h1] at h; cases h
section
variable {c : Cx} {P : Program} {M : Nat → Prop} {w0 w : World} {S : Nat → Prop} {N : Nat} {tm : Tm} {m : Mem} {ρ : Nat → Value} {a : Act}
theorem Inv.put (h : Inv c tm m ρ a w) {d : Option Tmp} {p : PV} {v : Value} (hd : ∀ t, d = some t → t < c.N) (hp : Rep c.M w m ρ p v) : Inv c (put tm d p) m ρ (a.put d v) w := by
  cases d with
  | none => exact h
  | some d =>
    have hd' : d < a.tmps.size := by rw [h.sz]; exact hd d rfl
    refine ⟨by simp [Act.put, h.sz], h.df, fun t => ?_, h.blk, h.sep, h.new, h.fr, h.old, h.dis, h.ft⟩
    rw [get_put, getD_put a d t v hd']
    split
    · exact hp
    · exact h.tm t
theorem okC_one {x : Value} (h : okC x = true) : x.oneCell' = true := by unfold okC at h; rw [Bool.and_eq_true] at h; exact h.1
theorem okC_ok {x : Value} (h : okC x = true) : okB x = true := by unfold okC at h; rw [Bool.and_eq_true] at h; exact h.2
theorem Rep.cut (x : Value) : Rep M w m ρ (cut x) x := by
  unfold V.cut
  split
  · rename_i cs
    split
    · rename_i h
      refine .agg (by simp) (fun i p v hp hv => ?_) (fun v hv => okC_one (List.all_eq_true.1 h v (Array.mem_toList_iff.2 hv)))
      rw [List.getElem?_map, Array.getElem?_toList, hv] at hp
      cases hp
      exact .im (.val (okC_ok (List.all_eq_true.1 h v (Array.mem_toList_iff.2 (Array.mem_of_getElem? hv)))))
    · exact .im .any
  · split
    · exact .im (.val (by assumption))
    · exact .im .any
theorem Inv.ev (h : Inv c tm m ρ a w) : ∀ x : Operand, Rep c.M w m ρ (ev tm x) (a.eval x)
  | .tmp t => h.tm t
  | .const v => Rep.cut v
  | .func f => .fn rfl (fun i p v hp => by simp at hp)
  | .global _ => .im .any
theorem wp_value {o : Oper} {K : Act → World → Prop} {Q : Exit → Act → World → Prop} {v : Value} {w' : World} (h : (execOp a.eval o).run P w = .ok (.value v) w') (hn : K (a.put o.dst v) w') : o.wp P a w K Q := by
  unfold Oper.wp
  rw [h]
  exact hn
theorem wp_skip {o : Oper} {K : Act → World → Prop} {Q : Exit → Act → World → Prop} {w' : World} (h : (execOp a.eval o).run P w = .ok .skip w') (hn : K (a.put o.dst undef) w') : o.wp P a w K Q := by
  unfold Oper.wp
  rw [h]
  exact hn
theorem Rep.val_eq {x v : Value} (h : Rep M w m ρ (.val x) v) : v = x := by
  cases h with
  | im h => cases h; rfl
theorem Rep.val_ok {x v : Value} (h : Rep M w m ρ (.val x) v) : okB x = true := by
  cases h with
  | im h => cases h; assumption
theorem okB_bool (b : Bool) : okB (.bool b) = true := rfl
theorem okB_undef : okB undef = true := rfl
theorem wrap_in (k : IntKind) (n : Int) : k.min ≤ k.wrap n ∧ k.wrap n ≤ k.max := by
  cases k <;> simp [IntKind.wrap, IntKind.min, IntKind.max, IntKind.bits, IntKind.signed] <;> omega
theorem min_max (k : IntKind) : k.min ≤ 0 ∧ 0 ≤ k.max := by
  cases k <;> simp [IntKind.min, IntKind.max, IntKind.bits, IntKind.signed]
theorem okB_wrap (k : IntKind) (n : Int) : okB (.int k (k.wrap n)) = true := decide_eq_true (wrap_in k n)
theorem okB_int {k : IntKind} {n : Int} (h : okB (.int k n) = true) : k.min ≤ n ∧ n ≤ k.max := of_decide_eq_true h

/-! the places of m -/
theorem lay_get (m : Mem) (x : Blk) (b : Nat) : (m ++ [x])[b]? = if b = m.length then some x else m[b]? := by
  by_cases h : b < m.length
  · rw [List.getElem?_append_left h, if_neg (by omega)]
  · rw [List.getElem?_append_right (by omega)]
    by_cases e : b = m.length
    · subst e; simp
    · rw [if_neg e, List.getElem?_eq_none (by omega : m.length ≤ b), List.getElem?_eq_none (by simp; omega)]
theorem free_not (m : Mem) : ¬ Live m m.length := by
  rintro ⟨x, hx, hd⟩
  have := lt_of_get hx; omega
theorem live_lay {m : Mem} {x : Blk} {b : Nat} (h : Live (m ++ [x]) b) : b = m.length ∨ Live m b := by
  obtain ⟨y, hy, hd⟩ := h
  rw [lay_get] at hy
  split at hy
  · exact .inl ‹_›
  · exact .inr ⟨y, hy, hd⟩
theorem live_row {m : Mem} {b : Nat} {e : TypeId} {es : List (List PV)} (h : m[b]? = some (.row e es)) : Live m b := ⟨_, h, by simp⟩
theorem live_var {m : Mem} {b : Nat} {cs : List PV} (h : m[b]? = some (.var cs)) : Live m b := ⟨_, h, by simp⟩
def upd (ρ : Nat → Value) (b : Nat) (v : Value) : Nat → Value := fun c => if c = b then v else ρ c
theorem own_lay {u : Value} {x : Blk} {H : Nat} (hu : ∀ k, own1 u = some k → H ≤ k) {k : Nat} (hk : k < H) (h : Own (m ++ [x]) (upd ρ m.length u) k) : Own m ρ k := by
  obtain ⟨b, hb, hk2⟩ := h
  unfold upd at hk2
  rcases live_lay hb with rfl | hb
  · rw [if_pos rfl] at hk2; have := hu k hk2; omega
  · have hne : b ≠ m.length := fun e => free_not m (e ▸ hb)
    rw [if_neg hne] at hk2; exact ⟨b, hb, hk2⟩
theorem mine_lay {u : Value} {x : Blk} {H : Nat} (hu : ∀ k, own1 u = some k → H ≤ k) {k : Nat} (hk : k < H) (h : Mine M (m ++ [x]) (upd ρ m.length u) k) : Mine M m ρ k := h.imp id (own_lay hu hk)
theorem row_lay {x : Blk} {u : Value} : ∀ b e es, m[b]? = some (.row e es) → upd ρ m.length u b = ρ b ∧ ∃ e' es', (m ++ [x])[b]? = some (.row e' es') ∧ es'.length = es.length ∧ ∀ sz, (∀ x ∈ es, x.length = sz) → ∀ x ∈ es', x.length = sz := by
  intro b e es hb
  have hne : b ≠ m.length := fun e => free_not m (e ▸ live_row hb)
  exact ⟨if_neg hne, e, es, by rw [lay_get, if_neg hne]; exact hb, rfl, fun _ h => h⟩
theorem var_lay {x : Blk} {u : Value} : ∀ b cs, m[b]? = some (.var cs) → upd ρ m.length u b = ρ b ∧ ∃ cs', (m ++ [x])[b]? = some (.var cs') := by
  intro b cs hb
  have hne : b ≠ m.length := fun e => free_not m (e ▸ live_var hb)
  exact ⟨if_neg hne, cs, by rw [lay_get, if_neg hne]; exact hb⟩
theorem Rep.lay {w' : World} {p : PV} {v u : Value} {x : Blk} (h : Rep M w m ρ p v) (hm : Mv (Own m ρ) w w') (hu : ∀ k, own1 u = some k → w.heap.size ≤ k) : Rep M w' (m ++ [x]) (upd ρ m.length u) p v :=
  h.move hm (fun k hk => own_lay hu hk) (fun k hk => mine_lay hu hk) row_lay var_lay
theorem ownsRow_move {w w' : World} {e : TypeId} {size n : Nat} {v : Value} {xs : List Value} (h : w.ownsRow 0 e size v n xs) (hb : ∀ k, own1 v = some k → k < w.heap.size → w'.heap[k]? = w.heap[k]?) : w'.ownsRow 0 e size v n xs := by
  refine ⟨h.1, ?_⟩
  rcases h.2 with hn | ⟨g, cap, cur, rfl, h0, hg, rest⟩
  · exact .inl hn
  · exact .inr ⟨g, cap, cur, rfl, h0, (hb g rfl (Array.getElem?_eq_some_iff.1 hg).1).trans hg, rest⟩
theorem BlkOk.move {M' : Nat → Prop} {w' : World} {m' : Mem} {ρ' : Nat → Value} {v : Value} {x : Blk} (h : BlkOk P M w m ρ v x) (hb : ∀ k, own1 v = some k → k < w.heap.size → w'.heap[k]? = w.heap[k]?)
    (hm : Mv (Own m ρ) w w') (hO : ∀ k, k < w.heap.size → Own m' ρ' k → Own m ρ k) (hN : ∀ k, k < w.heap.size → Mine M' m' ρ' k → Mine M m ρ k)
    (hr : ∀ b e es, m[b]? = some (.row e es) → ρ' b = ρ b ∧ ∃ e' es', m'[b]? = some (.row e' es') ∧ es'.length = es.length ∧ ∀ sz, (∀ x ∈ es, x.length = sz) → ∀ x ∈ es', x.length = sz)
    (hv : ∀ b cs, m[b]? = some (.var cs) → ρ' b = ρ b ∧ ∃ cs', m'[b]? = some (.var cs')) : BlkOk P M' w' m' ρ' v x := by
  cases h with
  | dead => exact .dead
  | var hg hl hj h1 => exact .var ((hb _ rfl (Array.getElem?_eq_some_iff.1 hg).1).trans hg) hl (fun j p v hp hv' => (hj j p v hp hv').move hm hO hN hr hv) h1
  | row hi hz hzs h0 hby hlen ho hs hf hx h1 =>
    exact .row hi hz hzs h0 hby hlen (ownsRow_move ho hb) hs hf (fun q j x p hq hj => let ⟨u, h2, h3⟩ := hx q j x p hq hj; ⟨u, h2, h3.move hm.mine hN⟩) h1
theorem Fr.step {w' : World} (h : Fr S w0 w) (ho : w'.os = w.os) (ht : w'.tape = w.tape) (hp : w'.output = w.output) (hs : w.heap.size ≤ w'.heap.size) (hb : ∀ k, k < w0.heap.size → ¬ S k → w'.heap[k]? = w.heap[k]?) : Fr S w0 w' :=
  ⟨ho.trans h.os, ht.trans h.tape, hp.trans h.output, Nat.le_trans h.size hs, fun k hk hS => (hb k hk hS).trans (h.block k hk hS)⟩
theorem BlkOk.lt {v : Value} {x : Blk} (h : BlkOk P M w m ρ v x) (hx : x ≠ .dead) {k : Nat} (hk : own1 v = some k) : k < w.heap.size := by
  cases h with
  | dead => exact absurd rfl hx
  | var hg => simp [own1] at hk; subst hk; exact (Array.getElem?_eq_some_iff.1 hg).1
  | row hi hz hzs h0 hby hlen ho =>
    rcases ho.2 with ⟨e, _⟩ | ⟨g, cap, cur, e, _, hg, _⟩
    · rw [e] at hk; cases hk
    · rw [e] at hk; simp [own1] at hk; subst hk; exact (Array.getElem?_eq_some_iff.1 hg).1
theorem Inv.lt (h : Inv c tm m ρ a w) {b k : Nat} (hb : Live m b) (hk : own1 (ρ b) = some k) : k < w.heap.size := by
  obtain ⟨y, hy, hd⟩ := hb
  exact (h.blk b y hy).lt hd hk
theorem Inv.out (h : Inv c tm m ρ a w) {b k : Nat} (hb : Live m b) (hk : own1 (ρ b) = some k) : ¬ c.M k := fun hM => by
  rcases h.new b k hb hk with h1 | h1
  · have := h.old k hM; omega
  · exact h.dis k h1 hM
/-- A new place in m, over a value that is nil or lies in a new block. -/
theorem Inv.lay0 (h : Inv c tm m ρ a w) {w' : World} {u : Value} {x : Blk}
    (hs : w.heap.size ≤ w'.heap.size) (hb : ∀ k, k < w.heap.size → w'.heap[k]? = w.heap[k]?) (ho : w'.os = w.os) (ht : w'.tape = w.tape) (hp : w'.output = w.output) (hu : ∀ k, own1 u = some k → w.heap.size ≤ k)
    (hx : BlkOk c.P c.M w' (m ++ [x]) (upd ρ m.length u) u x) : Inv c tm (m ++ [x]) (upd ρ m.length u) a w' := by
  have hm : Mv (Own m ρ) w w' := ⟨hs, fun k hk _ => hb k hk⟩
  have hsz : c.w0.heap.size ≤ w.heap.size := h.fr.size
  refine ⟨h.sz, h.df, fun t => (h.tm t).lay hm hu, fun b y hy => ?_, fun b b' k hb1 hc1 hk1 hk2 => ?_, fun b k hb1 hk1 => ?_, h.fr.step ho ht hp hs (fun k hk _ => hb k (by omega)), h.old, h.dis, ?_⟩
  · rw [lay_get] at hy
    split at hy
    · rename_i e; subst e; cases hy; rw [show upd ρ m.length u m.length = u from if_pos rfl]; exact hx
    · rename_i e
      rw [show upd ρ m.length u b = ρ b from if_neg e]
      exact (h.blk b y hy).move (fun k _ hk => hb k hk) hm (fun k hk => own_lay hu hk) (fun k hk => mine_lay hu hk) row_lay var_lay
  · have old : ∀ c, Live m c → ∀ k, own1 (ρ c) = some k → k < w.heap.size := fun c hc k hk => h.lt hc hk
    unfold upd at hk1 hk2
    rcases live_lay hb1 with e1 | hb1 <;> rcases live_lay hc1 with e2 | hc1
    · rw [e1, e2]
    · have hne : b' ≠ m.length := fun e => free_not m (e ▸ hc1)
      rw [if_pos e1] at hk1; rw [if_neg hne] at hk2
      have := hu k hk1; have := old b' hc1 k hk2; omega
    · have hne : b ≠ m.length := fun e => free_not m (e ▸ hb1)
      rw [if_neg hne] at hk1; rw [if_pos e2] at hk2
      have := hu k hk2; have := old b hb1 k hk1; omega
    · have hne : b ≠ m.length := fun e => free_not m (e ▸ hb1)
      have hne2 : b' ≠ m.length := fun e => free_not m (e ▸ hc1)
      rw [if_neg hne] at hk1; rw [if_neg hne2] at hk2
      exact h.sep b b' k hb1 hc1 hk1 hk2
  · unfold upd at hk1
    rcases live_lay hb1 with e1 | hb1
    · rw [if_pos e1] at hk1; have := hu k hk1; exact .inl (by omega)
    · have hne : b ≠ m.length := fun e => free_not m (e ▸ hb1)
      rw [if_neg hne] at hk1
      exact h.new b k hb1 hk1
  · have hl := h.ft.len
    have ub : ∀ b, b < c.n → upd ρ m.length u b = ρ b := fun b hb => if_neg (by omega)
    have gb : ∀ b, b < c.n → (m ++ [x])[b]? = m[b]? := fun b hb => by rw [lay_get, if_neg (by omega)]
    exact ⟨by simp; omega, fun b cs hb hm => by rw [ub b hb, gb b hb]; exact h.ft.var b cs hb hm, fun b e es hb hm => by rw [ub b hb, gb b hb]; exact h.ft.row b e es hb hm, fun b hb hm => by rw [gb b hb]; exact h.ft.dead b hb hm⟩
theorem Inv.lay (h : Inv c tm m ρ a w) {w' : World} {u : Value} {x : Blk} {d : Option Tmp} {p : PV} (hd : ∀ t, d = some t → t < c.N)
    (hs : w.heap.size ≤ w'.heap.size) (hb : ∀ k, k < w.heap.size → w'.heap[k]? = w.heap[k]?) (ho : w'.os = w.os) (ht : w'.tape = w.tape) (hp : w'.output = w.output) (hu : ∀ k, own1 u = some k → w.heap.size ≤ k)
    (hx : BlkOk c.P c.M w' (m ++ [x]) (upd ρ m.length u) u x) (hpu : Rep c.M w' (m ++ [x]) (upd ρ m.length u) p u) : Inv c (V.put tm d p) (m ++ [x]) (upd ρ m.length u) (a.put d u) w' :=
  (h.lay0 hs hb ho ht hp hu hx).put hd hpu
theorem Rep.laid {e : TypeId} {es : List (List PV)} {u : Value} : Rep M w (m ++ [.row e es]) (upd ρ m.length u) (.own m.length) u := by
  have := Rep.own (M := M) (w := w) (m := m ++ [.row e es]) (ρ := upd ρ m.length u) (b := m.length) (e := e) (es := es) (by rw [lay_get, if_pos rfl])
  rwa [show upd ρ m.length u m.length = u from if_pos rfl] at this
end
end Go.V
set_option linter.unusedVariables false
set_option linter.unusedSimpArgs false
namespace Go.V
open Go
structure MemOk (P : Program) (M : Nat → Prop) (w : World) (m : Mem) (ρ : Nat → Value) : Prop where
  blk : ∀ b x, m[b]? = some x → BlkOk P M w m ρ (ρ b) x
  sep : ∀ b b' k, Live m b → Live m b' → own1 (ρ b) = some k → own1 (ρ b') = some k → b = b'
  out : ∀ b k, Live m b → own1 (ρ b) = some k → ¬ M k
/-- What a call does: handed what args tell, over m, it gives back something told of which Q holds, or panics with a value of which R holds. -/
def DoesR (P : Program) (f : FuncId) (args : List PV) (m : Mem) (np : Nat) (Q : PV → Mem → Prop) (R : Value → Prop) : Prop := (∃ fn c, P.funcs[f]? = some fn ∧ fn.body = some c ∧ (fn.name == "runtime.NumGoroutine") = false) ∧
  ∀ (M : Nat → Prop) (w : World) (vs : Array Value) (ρ : Nat → Value), (∀ k, M k → k < w.heap.size) → MemOk P M w m ρ → args.length = vs.size → (∀ (i : Nat) (p : PV) (v : Value), args[i]? = some p → vs[i]? = some v → Rep M w m ρ p v) →
    Calls P f vs w fun e w' => (∃ v r m' ρ', e = .returned v ∧ Q r m' ∧ Fr (Own m ρ) w w' ∧ Rep M w' m' ρ' r v ∧ MemOk P M w' m' ρ' ∧ Foot ⟨P, M, w, Own m ρ, 0, m.length, np, m, ρ, [], fun _ => true⟩ m' ρ' ∧ ∀ b k, Live m' b → own1 (ρ' b) = some k → w.heap.size ≤ k ∨ Own m ρ k) ∨
      ∃ v, e = .panicked [{ v := v, recovered := false }] ∧ R v ∧ Fr (Own m ρ) w w'
def Does (P : Program) (f : FuncId) (args : List PV) (m : Mem) (np : Nat) (Q : PV → Mem → Prop) : Prop := DoesR P f args m np Q fun _ => False
theorem DoesR.mono {P : Program} {f : FuncId} {args : List PV} {m : Mem} {np : Nat} {Q Q' : PV → Mem → Prop} {R R' : Value → Prop} (h : DoesR P f args m np Q R) (hQ : ∀ r m', Q r m' → Q' r m') (hR : ∀ v, R v → R' v) : DoesR P f args m np Q' R' :=
  ⟨h.1, fun M w vs ρ hM hm hl hr => (h.2 M w vs ρ hM hm hl hr).mono fun e w' he => by
    rcases he with ⟨v, r, m', ρ', h1, h2, h3⟩ | ⟨v, h1, h2, h3⟩
    · exact .inl ⟨v, r, m', ρ', h1, hQ r m' h2, h3⟩
    · exact .inr ⟨v, h1, hR v h2, h3⟩⟩
theorem Does.mono {P : Program} {f : FuncId} {args : List PV} {m : Mem} {np : Nat} {Q Q' : PV → Mem → Prop} (h : Does P f args m np Q) (hQ : ∀ r m', Q r m' → Q' r m') : Does P f args m np Q' := DoesR.mono h hQ fun _ h => h
theorem Does.run {P : Program} {f : FuncId} {args : List PV} {m : Mem} {np : Nat} {Q : PV → Mem → Prop} (h : Does P f args m np Q) {M : Nat → Prop} {w : World} {vs : Array Value} {ρ : Nat → Value} (hM : ∀ k, M k → k < w.heap.size) (hm : MemOk P M w m ρ) (hl : args.length = vs.size) (hr : ∀ (i : Nat) (p : PV) (v : Value), args[i]? = some p → vs[i]? = some v → Rep M w m ρ p v) :
    Calls P f vs w fun e w' => ∃ v r m' ρ', e = .returned v ∧ Q r m' ∧ Fr (Own m ρ) w w' ∧ Rep M w' m' ρ' r v ∧ MemOk P M w' m' ρ' ∧ Foot ⟨P, M, w, Own m ρ, 0, m.length, np, m, ρ, [], fun _ => true⟩ m' ρ' ∧ ∀ b k, Live m' b → own1 (ρ' b) = some k → w.heap.size ≤ k ∨ Own m ρ k :=
  (h.2 M w vs ρ hM hm hl hr).mono fun e w' he => he.resolve_right fun ⟨v, _, h, _⟩ => h
def landV (P : Program) (tm : Tm) (m : Mem) (d : Option Tmp) (k : Tm → Mem → Prop) (bs : List Nat) (r : PV) (m' : Mem) : Prop :=
  if (closed r && closedM P m') = true then k (put tm d (ren (shift m.length) false r)) (m ++ m'.map (renB (shift m.length) false))
  else k (put (frzT bs m tm) d (ren (shift m.length) false r)) (frzM bs m 0 m ++ m'.map (renB (shift m.length) false))
def callV (P : Program) (kp : Value → Tm → Mem → Prop) (tm : Tm) (m : Mem) (d : Option Tmp) (k : Tm → Mem → Prop) (g : FuncId) (args : List PV) (bs : List Nat) : Prop := DoesR P g args [] 0 (landV P tm m d k bs) (fun v => kp v tm m)
def alive (P : Program) : Nat → List Nat → Mem → Mem → Bool
  | _, [], _, _ => true
  | j, b :: es, m, m' => (match m[b]?, m'[j]? with
    | some (.var _), some (.var _) => true
    | some (.row e _), some (.row e' _) => e == e'
    | _, _ => false) && alive P (j + 1) es m m'
def backN (es : List Nat) (L : Nat) (i : Nat) : Option Nat := if i < es.length then es[i]? else some (L + (i - es.length))
def setAll : Mem → List (Nat × Blk) → Mem
  | m, [] => m
  | m, (b, x) :: l => setAll (m.set b x) l
def wipeAllT (tm : Tm) : List Nat → Tm
  | [] => tm
  | b :: l => wipeAllT (wipeT b tm) l
def wipeAllM (m : Mem) : List Nat → Mem
  | [] => m
  | b :: l => wipeAllM (wipeM b m) l
/-- Behind a call that was lent places of m (es; the first np of them keep their headers). -/
def landM (P : Program) (tm : Tm) (m : Mem) (d : Option Tmp) (k : Tm → Mem → Prop) (np : Nat) (es : List Nat) (r : PV) (m' : Mem) : Prop :=
  need (alive P 0 es m m' = true) (k (put (wipeAllT tm (es.drop np)) d (ren (backN es m.length) false r)) (setAll (wipeAllM m (es.drop np)) (es.zip (m'.map (renB (backN es m.length) false))) ++ (m'.drop es.length).map (renB (backN es m.length) false)))
def lentTo (m : Mem) (ps : List PV) : List Nat := dd (dd [] (idss ps)) (cellIds m (dd [] (idss ps)))
def atLeast (n : Nat) : List Nat → Bool
  | [] => true
  | b :: l => decide (n ≤ b) && atLeast n l
def callM (P : Program) (np0 : Nat) (tm : Tm) (m : Mem) (d : Option Tmp) (k : Tm → Mem → Prop) (g : FuncId) (ps : List PV) : Prop :=
  need (atLeast np0 ((lentTo m ps).drop (dd [] (idss ps)).length) = true) (Does P g (ps.map (ren (pos 0 (lentTo m ps)) true)) (canonM 0 m (lentTo m ps) true) (dd [] (idss ps)).length (landM P tm m d k (dd [] (idss ps)).length (lentTo m ps)))
def strT (P : Program) (t : TypeId) : Bool := match P.underlying t with
  | some .string => true
  | _ => false
/-- What is known of numbers that are reckoned with. -/
def learn (op : BinOp) (a b : Value) (k : Prop) : Prop := match op, a, b with
  | .add, .int .i64 x, .int .i64 y => know (-9223372036854775808 ≤ x ∧ x ≤ 9223372036854775807 ∧ -9223372036854775808 ≤ y ∧ y ≤ 9223372036854775807) k
  | .sub, .int .i64 x, .int .i64 y => know (-9223372036854775808 ≤ x ∧ x ≤ 9223372036854775807 ∧ -9223372036854775808 ≤ y ∧ y ≤ 9223372036854775807) k
  | .mul, .int .i64 x, .int .i64 y => know (-9223372036854775808 ≤ x ∧ x ≤ 9223372036854775807 ∧ -9223372036854775808 ≤ y ∧ y ≤ 9223372036854775807) k
  | .quo, .int .i64 x, .int .i64 y => know (-9223372036854775808 ≤ x ∧ x ≤ 9223372036854775807 ∧ -9223372036854775808 ≤ y ∧ y ≤ 9223372036854775807) k
  | .rem, .int .i64 x, .int .i64 y => know (-9223372036854775808 ≤ x ∧ x ≤ 9223372036854775807 ∧ -9223372036854775808 ≤ y ∧ y ≤ 9223372036854775807) k
  | .add, .int .u64 x, .int .u64 y => know (0 ≤ x ∧ x ≤ 18446744073709551615 ∧ 0 ≤ y ∧ y ≤ 18446744073709551615) k
  | .sub, .int .u64 x, .int .u64 y => know (0 ≤ x ∧ x ≤ 18446744073709551615 ∧ 0 ≤ y ∧ y ≤ 18446744073709551615) k
  | .quo, .int .u64 x, .int .u64 y => know (0 ≤ x ∧ x ≤ 18446744073709551615 ∧ 0 ≤ y ∧ y ≤ 18446744073709551615) k
  | .rem, .int .u64 x, .int .u64 y => know (0 ≤ x ∧ x ≤ 18446744073709551615 ∧ 0 ≤ y ∧ y ≤ 18446744073709551615) k
  | _, _, _ => k
def learn1 (a : Value) (k : Prop) : Prop := match a with
  | .int .i64 x => know (-9223372036854775808 ≤ x ∧ x ≤ 9223372036854775807) k
  | .int .u64 x => know (0 ≤ x ∧ x ≤ 18446744073709551615) k
  | _ => k
theorem okB_i64 {x : Int} (h : okB (.int .i64 x) = true) : -9223372036854775808 ≤ x ∧ x ≤ 9223372036854775807 := by
  have := okB_int h
  simpa [IntKind.min, IntKind.max, IntKind.bits, IntKind.signed] using this
theorem okB_u64 {x : Int} (h : okB (.int .u64 x) = true) : 0 ≤ x ∧ x ≤ 18446744073709551615 := by
  have := okB_int h
  simpa [IntKind.min, IntKind.max, IntKind.bits, IntKind.signed] using this
theorem learn_e {op : BinOp} {a b : Value} {k : Prop} (h : learn op a b k) (ha : okB a = true) (hb : okB b = true) : k := by
  unfold learn at h
  split at h <;> first | exact h ⟨(okB_i64 ha).1, (okB_i64 ha).2, (okB_i64 hb).1, (okB_i64 hb).2⟩ | exact h ⟨(okB_u64 ha).1, (okB_u64 ha).2, (okB_u64 hb).1, (okB_u64 hb).2⟩ | exact h
theorem learn1_e {a : Value} {k : Prop} (h : learn1 a k) (ha : okB a = true) : k := by
  unfold learn1 at h
  split at h <;> first | exact h (okB_i64 ha) | exact h (okB_u64 ha) | exact h
theorem tmod_le {x y : Int} (h : 0 ≤ x) : x.tmod y ≤ x := by
  have h1 := Int.mul_tdiv_add_tmod x y
  by_cases hy : 0 ≤ y
  · have h2 : 0 ≤ x.tdiv y := Int.tdiv_nonneg h hy
    have h3 := Int.mul_nonneg hy h2
    omega
  · have h2 : 0 ≤ x.tdiv (-y) := Int.tdiv_nonneg h (by omega)
    rw [Int.tdiv_neg] at h2
    have h3 := Int.mul_nonneg (show 0 ≤ -y by omega) h2
    rw [Int.neg_mul_neg] at h3
    omega
theorem binV_ok {P : Program} {t : TypeId} {op : BinOp} {a b v : Value} (h : binV P t op a b = some v) (ha : okB a = true) (hb : okB b = true) : okB v = true := by
  unfold binV at h
  split at h
  · split at h
    · rename_i k x k' y hk
      subst hk
      have hx := okB_int ha
      by_cases hs : op = .shr
      · subst hs
        dsimp only at h
        split at h
        · rename_i h1; obtain ⟨rfl, rfl⟩ := h1; cases h; refine decide_eq_true ?_; simp [IntKind.min, IntKind.max, IntKind.bits, IntKind.signed] at hx ⊢; omega
        · split at h
          · rename_i h1; obtain ⟨rfl, rfl⟩ := h1; cases h; refine decide_eq_true ?_; simp [IntKind.min, IntKind.max, IntKind.bits, IntKind.signed] at hx ⊢; omega
          · cases h
      cases op <;> simp at h hs <;> (first | (subst h; first | exact okB_wrap _ _ | rfl) | (obtain ⟨⟨rfl, rfl⟩, rfl⟩ := h; refine decide_eq_true ?_; simp [IntKind.min, IntKind.max, IntKind.bits, IntKind.signed] at hx ⊢; omega) | (obtain ⟨h1, rfl⟩ := h; first | exact okB_wrap _ _ | skip))
      have hm := min_max k
      refine decide_eq_true ?_
      rcases Int.le_total 0 x with h0 | h0
      · have h2 : 0 ≤ x.tmod y := Int.tmod_nonneg y h0
        have h3 : x.tmod y ≤ x := tmod_le h0
        omega
      · have h2 : 0 ≤ (-x).tmod y := Int.tmod_nonneg y (by omega)
        have h3 : (-x).tmod y ≤ -x := tmod_le (by omega)
        rw [Int.neg_tmod] at h2 h3
        omega
    · cases h
  · split at h
    · cases op <;> simp at h <;> (subst h; rfl)
    · cases h
  · rename_i x y
    cases op <;> simp at h <;> (first | (subst h; rfl) | (obtain ⟨h1, rfl⟩ := h; refine decide_eq_true ?_; simp only [ByteArray.size_append]; omega))
  · cases h
theorem unV_ok {op : UnOp} {a v : Value} (h : unV op a = some v) : okB v = true := by
  unfold unV at h
  split at h
  · cases op <;> simp at h <;> (subst h; exact okB_wrap _ _)
  · cases op <;> simp at h <;> (subst h; rfl)
  · cases h
def storeP (P : Program) (d : Option Tmp) (k : Tm → Mem → Prop) (t : TypeId) (x y : Operand) (tm : Tm) (m : Mem) : Prop := onPtr (ev tm x)
    (fun b o => cells (ev tm y) fun ns => onVarB m[b]? fun cs => need (sizeT P t = some ns.length ∧ o + ns.length ≤ cs.length) (k (put tm d (.val undef)) (m.set b (.var (splice cs o ns)))))
    (fun b i j => cells (ev tm y) fun ns => onRowB m[b]? fun e es => onS es[i]? fun c => need (sizeT P t = some ns.length ∧ j + ns.length ≤ c.length ∧ pures ns = true ∧ (!flatT P e || ns.all flatP) = true) (k (put tm d (.val undef)) (m.set b (.row e (es.set i (splice c j ns))))))
    (fun _ => False)
section
variable (P : Program) (np : Nat) (lent : FuncId → Bool) (kp : Value → Tm → Mem → Prop)
/-- One operation. -/
def step (tm : Tm) (m : Mem) (d : Option Tmp) (ty : TypeId) (k : Tm → Mem → Prop) : Op → Prop
  | .move x => k (put tm d (ev tm x)) m
  | .assign (.const (.slice none 0 0)) => onS (elemOf P ty) fun e => onS (rowSize P e) fun _ => k (put tm d (.own m.length)) (m ++ [.row e []])
  | .assign x => k (put tm d (ev tm x)) m
  | .pick c x y => onBool (ev tm c) fun b => ifB b (k (put tm d (ev tm x)) m) (k (put tm d (ev tm y)) m)
  | .box _ x => cells (ev tm x) fun cs => k (put tm d (.adr m.length 0)) (m ++ [.var cs])
  | .alloc t => onS (zeroOf P t) fun zs => k (put tm d (.adr m.length 0)) (m ++ [.var (zs.map .val)])
  | .nilCheck x => onPtr (ev tm x) (fun b i => k (put tm d (.adr b i)) m) (fun b i j => k (put tm d (.ead b i j)) m) (fun cs => k (put tm d (.cad cs)) m)
  | .load t x => at1 m (ev tm x) fun cs => onS (loadC P t cs) fun p => k (put tm d p) m
  | .store t x y => ifB (isEad (ev tm x) && !none0 (ids (ev tm y))) (storeP P d k t x y (frzT (ids (ev tm y)) m tm) (frzM (ids (ev tm y)) m 0 m)) (storeP P d k t x y tm m)
  | .fieldAddr s x f => onS (fieldOff P s f) fun o => onPtr (ev tm x) (fun b o' => k (put tm d (.adr b (o' + o))) m) (fun b i j => k (put tm d (.ead b i (j + o))) m) (fun cs => k (put tm d (.cad (cs.drop o))) m)
  | .indexAddr t x i => onInt (ev tm i) fun _ n => onRow (ev tm x)
    (fun es => onS (idx es n) fun cs => need (elemSize P t = some cs.length) (k (put tm d (.cad cs)) m))
    (fun b => row1 m (.own b) fun es => onS (idx es n) fun cs => need (elemSize P t = some cs.length) (k (put tm d (.ead b n.toNat 0)) m))
    (fun b l h => row1 m (.osl b l h) fun es => onS (idx es n) fun cs => need (elemSize P t = some cs.length) (k (put tm d (.ead b (l + n.toNat) 0)) m))
  | .extract x i => onTup (ev tm x) fun vs => onS vs[i]? fun p => k (put tm d p) m
  | .binOp op t x (.const (.slice none 0 0)) _ => need (sliceT P t = true) (row1 m (ev tm x) fun es => match op with
      | .eql => nilQ es fun b => k (put tm d (.val (.bool b))) m
      | .neq => nilQ es fun b => k (put tm d (.val (.bool !b))) m
      | _ => False)
  | .binOp op t x y _ => onValA (ev tm x) (fun a => onVal (ev tm y) fun b => learn op a b (onS (binV P t op a b) fun v => k (put tm d (.val v)) m))
      (fun cs => onAgg (ev tm y) fun ds => onS (eqShape P t) fun l => onS (eqGo l cs ds) fun b => match op with
        | .eql => k (put tm d (.val (.bool b))) m
        | .neq => k (put tm d (.val (.bool !b))) m
        | _ => False)
  | .unOp op _ x => onVal (ev tm x) fun a => learn1 a (onS (unV op a) fun v => k (put tm d (.val v)) m)
  | .convert s t x => onInt (ev tm x) fun k0 n => learn1 (.int k0 n) (onS (intT P s t) fun kd => k (put tm d (.val (.int kd (kd.wrap n)))) m)
  | .makeFunc (.func f) first caps => need (first.toList = []) (k (put tm d (.fn f (caps.toList.map (ev tm)))) m)
  | .makeSlice t l c => onS (elemOf P t) fun e => onS (rowSize P e) fun _ => onS (zeroOf P e) fun zs => onInt (ev tm l) fun _ n => onInt (ev tm c) fun _ u =>
      need (0 ≤ n ∧ n ≤ u ∧ u ≤ 1000000000) (need (zs.all (fun z => flatP (.val z) || !flatT P e) = true) (k (put tm d (.own m.length)) (m ++ [.row e (List.replicate n.toNat (zs.map zrP))])))
  | .slice t x lo hi none => ifB (nilP (ev tm x)) (onS (elemSize P t) fun _ => onS (bound 0 (lo.map (ev tm))) fun l => onS (bound 0 (hi.map (ev tm))) fun h => need (l = 0 ∧ h = 0) (k (put tm d (.val (.slice none 0 0))) m)) (onRow (ev tm x)
    (fun es => onS (bound 0 (lo.map (ev tm))) fun l => onS (bound es.length (hi.map (ev tm))) fun h => onS (elemSize P t) fun z => need (0 ≤ l ∧ l ≤ h ∧ h ≤ es.length ∧ ∀ x ∈ es, x.length = z) (k (put tm d (.sl ((es.take h.toNat).drop l.toNat))) m))
    (fun b => onRowB m[b]? fun e es => onS (bound 0 (lo.map (ev tm))) fun l => onS (bound es.length (hi.map (ev tm))) fun h => need (elemOf P t = some e) (need (0 ≤ l ∧ l ≤ h ∧ h ≤ es.length) (k (put tm d (.osl b l.toNat h.toNat)) m)))
    (fun b l' h' => onRowB m[b]? fun e es => onS (bound 0 (lo.map (ev tm))) fun l => onS (bound ((h' - l' : Nat) : Int) (hi.map (ev tm))) fun h => need (elemOf P t = some e) (need (0 < l' ∧ 0 ≤ l ∧ l ≤ h ∧ h ≤ ((h' - l' : Nat) : Int)) (k (put tm d (.osl b (l' + l.toNat) (l' + h.toNat))) m))))
  | .slice t x lo (some hi) (some mx) => onRow (ev tm x) (fun es => onInt (ev tm mx) fun _ u => onInt (ev tm hi) fun _ h => onS (bound 0 (lo.map (ev tm))) fun l => onS (elemSize P t) fun z => need (0 ≤ l ∧ l ≤ h ∧ h ≤ u ∧ u ≤ es.length ∧ ∀ x ∈ es, x.length = z) (k (put tm d (.sl ((es.take h.toNat).drop l.toNat))) m)) (fun _ => False) (fun _ _ _ => False)
  | .call { callee := .builtin .clear, args, argTypes } => onOne args.toList fun x => onOne argTypes.toList fun t => onRow (ev tm x) (fun _ => False) (fun _ => False) (fun b l h => onRowB m[b]? fun e es => need (elemOf P t = some e) (onS (zeroOf P e) fun zs => need (l < h ∧ h ≤ es.length ∧ zs.all (fun z => flatP (.val z) || !flatT P e) = true)
      (k (put tm d (.tup [])) (m.set b (.row e (splice es l (List.replicate (h - l) (zs.map .val))))))))
  | .build t parts => onS (layout P t) fun x => fillB x.1 (x.2.map .val) (parts.toList.map fun y => (y.1, ev tm y.2)) fun cs => k (put tm d (.agg cs)) m
  | .buildSlice t n parts => onS (elemOf P t) fun e => onS (rowSize P e) fun _ => need (n = parts.toList.length ∧ n ≤ 1000 ∧ seqFrom 0 parts.toList = true)
      (partCells ((parts.toList.map fun x => ev tm x.2).map (frz1 (idss (parts.toList.map fun x => ev tm x.2)) m)) fun es => need (Fit P e es) (k (put (frzT (idss (parts.toList.map fun x => ev tm x.2)) m tm) d (.own m.length)) (frzM (idss (parts.toList.map fun x => ev tm x.2)) m 0 m ++ [.row e es])))
  | .call { callee := .builtin .len, args, argTypes } => onOne args.toList fun x => onOne argTypes.toList fun t => ifB (strT P t)
      (onStr (ev tm x) fun s => know (s.size ≤ 140737488355328) (k (put tm d (.val (.int .i64 s.size))) m))
      (onS (elemOf P t) fun _ => row1 m (ev tm x) fun es => know (es.length ≤ 9223372036854775807) (k (put tm d (.val (.int .i64 es.length))) m))
  | .call { callee := .builtin .min, args, .. } => onTwo args.toList fun x y => onInt (ev tm x) fun kd a => onInt (ev tm y) fun kd' b => need (kd = kd') (k (put tm d (.val (.int kd (if b < a then b else a)))) m)
  | .call { callee := .builtin .cap, args, argTypes } => onOne args.toList fun x => onOne argTypes.toList fun t => onS (elemOf P t) fun _ => onApp (ev tm x) (fun _ => False) (fun _ _ => False) (k (put tm d (.val (.int .i64 0))) m) (fun _ _ _ => False)
  | .call { callee := .builtin .append, args, argTypes } => onTwo args.toList fun x y => onTwo argTypes.toList fun t t' => ifB (t == t') (onApp (ev tm x)
      (fun b => need ((ids (ev tm y)).contains b = false ∧ np ≤ b) (row1 m (ev tm y) fun es2 => onRowB m[b]? fun e es => need (elemOf P t = some e) (need (es.length + es2.length ≤ 1000000000 ∧ Fit P e es2) (k (put (wipeT b tm) d (.own b)) ((wipeM b m).set b (.row e (es ++ es2)))))))
      (fun b h => need ((ids (ev tm y)).contains b = false ∧ np ≤ b) (row1 m (ev tm y) fun es2 => onRowB m[b]? fun e es => need (elemOf P t = some e) (need (es.length + es2.length ≤ 1000000000 ∧ Fit P e es2) (k (put (wipeT b tm) d (.own b)) ((wipeM b m).set b (.row e (es.take h ++ es2)))))))
      (onS (elemOf P t) fun e => onS (rowSize P e) fun _ => row1 m (ev tm y) fun es2 => need (es2.length ≤ 1000000000 ∧ Fit P e es2) (k (put tm d (.own m.length)) (m ++ [.row e es2])))
      (fun b l h => need ((ids (ev tm y)).contains b = false ∧ np ≤ b) (row1 m (ev tm y) fun es2 => onRowB m[b]? fun e es => need (elemOf P t = some e ∧ h = es.length) (need (es.length + es2.length ≤ 1000000000 ∧ Fit P e es2)
        (both (k (put (wipeT b tm) d (.own b)) ((wipeM b m).set b (.row e (es.drop l ++ es2)))) (k (put (wipeT b tm) d (.osl b l (h + es2.length))) ((wipeM b m).set b (.row e (es ++ es2)))))))))
      (onApp (ev tm x) (fun _ => False) (fun _ _ => False) (onS (elemOf P t) fun e => onS (rowSize P e) fun _ => onS (intT P t' t') fun _ => onS (zeroOf P e) fun zs => onInt (ev tm y) fun _ n => need (0 < n ∧ n ≤ 1000000000) (need (zs.all (fun z => flatP (.val z) || !flatT P e) = true) (k (put tm d (.own m.length)) (m ++ [.row e (List.replicate n.toNat (zs.map .val))])))) (fun _ _ _ => False))
  | .call { callee := .value fo, args, .. } => onFn (ev tm fo) fun g caps => ifB (lent g) (callM P np tm m d k g (args.toList.map (ev tm) ++ caps))
      (callV P kp tm m d k g ((args.toList.map (ev tm) ++ caps).map (seen m)) (deep m (idss (args.toList.map (ev tm) ++ caps))))
  | _ => False
def execOps (ops : Array Oper) (k : Tm → Mem → Prop) : List Oper → Tm → Mem → Prop
  | [], tm, m => k tm m
  | o :: rest, tm, m => match o.guard with
    | none => step P np lent kp tm m o.dst o.type (execOps ops k rest) o.op
    | some (j, want) => onS (told ops tm j want) fun b => ifB b (step P np lent kp tm m o.dst o.type (execOps ops k rest) o.op) (execOps ops k rest (put tm o.dst (.val undef)) m)
def stepO (ops : Array Oper) (K : Tm → Mem → Prop) (o : Oper) (tm : Tm) (m : Mem) : Prop := match o.guard with
    | none => step P np lent kp tm m o.dst o.type K o.op
    | some (j, want) => onS (told ops tm j want) fun b => ifB b (step P np lent kp tm m o.dst o.type K o.op) (K (put tm o.dst (.val undef)) m)
def execT (ops : Array Oper) (l : List Oper) (k : Tm → Mem → Prop) : Tr → Tm → Mem → Prop
  | .nil, tm, m => k tm m
  | .one i t, tm, m => onS l[i]? fun o => stepO P np lent kp ops (execT ops l k t) o tm m
  | .alt s t, tm, m => execT ops l k s tm m ∧ execT ops l k t tm m
/-- Whatever the order, the same state comes. -/
def joinP (k : Tm → Mem → Prop) (A : (Tm → Mem → Prop) → Prop) : Prop := ∃ X : Tm → Mem → Prop, (∀ tm m, X tm m → k tm m) ∧ A X
def execR (n : Nat) (ops : Array Oper) (k : Tm → Mem → Prop) (l : List Oper) (tm : Tm) (m : Mem) : Option (Tr × List Nat) → Prop
  | none => execOps P np lent kp ops k l tm m
  | some (T, lv) => joinP k fun X => execT P np lent kp ops l (fun tm m => head n lv tm m X) T tm m
end
section
variable (P : Program) (np : Nat) (lent : FuncId → Bool)
inductive LoopP (n : Nat) (body : KF → Tm → Mem → Prop) (live : List Nat) (K : KF) : Tm → Mem → Prop
  | mk {tm : Tm} {m : Mem} (X : Tm → Mem → Prop) (hX : ∀ tm m, X tm m → LoopP n body live K tm m) (hb : body (fun e tm' m' => match e with | .normal => head n live tm' m' X | e => K e tm' m') tm m) : LoopP n body live K tm m
variable (n : Nat) (live : Nat → List Nat) (tr : Nat → Option (Tr × List Nat))
def execC : Code → KF → Tm → Mem → Prop
  | .skip, K, tm, m => K .normal tm m
  | .region _ ops false, K, tm, m => execOps P np lent (fun v => K (.pan v)) ops (K .normal) ops.toList tm m
  | .region id ops true, K, tm, m => execR P np lent (fun v => K (.pan v)) n ops (K .normal) ops.toList tm m (tr id)
  | .seq a b, K, tm, m => execC a (andThen (execC b K) K) tm m
  | .cond c x y, K, tm, m => onBool (ev tm c) fun b => ifB b (execC x K tm m) (execC y K tm m)
  | .block id (.loop c), K, tm, m => head n (live id) tm m (LoopP n (execC c) (live id) (leave id K))
  | .block id c, K, tm, m => execC c (leave id K) tm m
  | .exit id, K, tm, m => K (.exit id) tm m
  | .scope c, K, tm, m => execC c K tm m
  | .label _, K, tm, m => K .normal tm m
  | .ret, K, tm, m => K .ret tm m
  | _, _, _, _ => False
end
def resB (P : Program) (tm : Tm) (m : Mem) : List ResultVar → (List PV → Prop) → Prop
  | [], k => k []
  | .tmp t :: l, k => resB P tm m l fun ps => k (get tm t :: ps)
  | .cell a t :: l, k => at1 m (get tm a) fun cs => onS (loadC P t cs) fun p => resB P tm m l fun ps => k (p :: ps)
def oneB : List PV → PV
  | [p] => p
  | ps => .tup ps
def doneR (P : Program) (n : Nat) (rs : List ResultVar) (Q : PV → Mem → Prop) (R : Value → Prop) : KF := fun e tm m => match e with
  | .exit _ => False
  | .pan v => R v
  | _ => resB P tm m rs fun ps => fin n m (oneB ps) Q
def done (P : Program) (n : Nat) (rs : List ResultVar) (Q : PV → Mem → Prop) : KF := doneR P n rs Q fun _ => False
theorem loop_ind {σ : Type} {n : Nat} {body : KF → Tm → Mem → Prop} {live : List Nat} {K : KF} (st : σ → Tm) (mm : σ → Mem) (μ : σ → Nat) (G : σ → Prop)
    (hs : ∀ (X : Tm → Mem → Prop) s, G s → (∀ s', μ s' < μ s → G s' → X (st s') (mm s')) → body (fun e tm' m' => match e with | .normal => head n live tm' m' X | e => K e tm' m') (st s) (mm s)) : ∀ s, G s → LoopP n body live K (st s) (mm s) := by
  have : ∀ k s, μ s < k → G s → LoopP n body live K (st s) (mm s) := by
    intro k
    induction k with
    | zero => intro s h; omega
    | succ k ih =>
      intro s hk hg
      refine .mk (fun tm m => ∃ s', μ s' < μ s ∧ G s' ∧ tm = st s' ∧ m = mm s') ?_ (hs _ s hg fun s' h1 h2 => ⟨s', h1, h2, rfl, rfl⟩)
      rintro tm m ⟨s', h1, h2, rfl, rfl⟩
      exact ih s' (by omega) h2
  exact fun s hg => this _ s (Nat.lt_succ_self _) hg
end Go.V
set_option linter.unusedVariables false
set_option linter.unusedSimpArgs false
namespace Go.V
open Go
section
variable {c : Cx} {P : Program} {M M' : Nat → Prop} {w0 w w' : World} {S : Nat → Prop} {N : Nat} {tm : Tm} {m m' : Mem} {ρ ρ' : Nat → Value} {a : Act}
/-- What follows an operation. -/
def Then (c : Cx) (k : Tm → Mem → Prop) : Act → World → Prop :=
  fun a w => ∃ tm m ρ, k tm m ∧ Inv c tm m ρ a w
theorem boolT_eq {t : TypeId} (h : boolT P t = true) : P.underlying t = some .bool := by
  unfold boolT at h
  split at h
  · assumption
  · cases h
theorem sliceT_eq {t : TypeId} (h : sliceT P t = true) : ∃ e, P.underlying t = some (.slice e) := by
  unfold sliceT at h
  split at h
  · rename_i e _; exact ⟨e, by assumption⟩
  · cases h
theorem shr32 (a : Int) (w : World) : (Op.shift .shr .u64 a .u64 32).run P w = .ok (.int .u64 (a / 4294967296)) w := by
  have : a.fdiv 4294967296 = a / 4294967296 := Int.fdiv_eq_ediv_of_nonneg a (by omega)
  simp [Op.shift, IntKind.bits, this]
theorem shr1 (a : Int) (w : World) : (Op.shift .shr .u64 a .u64 1).run P w = .ok (.int .u64 (a / 2)) w := by
  have : a.fdiv 2 = a / 2 := Int.fdiv_eq_ediv_of_nonneg a (by omega)
  simp [Op.shift, IntKind.bits, this]
theorem and32 (a : Int) (w : World) : (Op.intBits .and .u64 a 4294967295).run P w = .ok (.int .u64 (a % 4294967296)) w := by
  have h : IntKind.u64.wrap ((BitVec.ofInt 64 a &&& 4294967295#64).toNat : Int) = a % 4294967296 := by
    have e : (BitVec.ofInt 64 a &&& 4294967295#64).toNat = (BitVec.ofInt 64 a).toNat % 4294967296 := by
      rw [BitVec.toNat_and]; exact Nat.and_two_pow_sub_one_eq_mod _ 32
    rw [e, BitVec.toNat_ofInt]
    simp [IntKind.wrap, IntKind.bits, IntKind.signed]
    omega
  simp [Op.intBits, IntKind.bits]
  exact h
theorem binV_run {op : BinOp} {t : TypeId} {x y v : Value} (h : binV P t op x y = some v) (ox oy : Operand) (w : World) : (do eqGuard op t ox oy x y; binOp op t x y : Sem Value).run P w = .ok v w := by
  unfold binV at h
  split at h
  · split at h
    · rename_i k a k' b hk
      subst hk
      by_cases hs : op = .shr
      · subst hs
        dsimp only at h
        split at h
        · rename_i h1; obtain ⟨rfl, rfl⟩ := h1; cases h; simp [eqGuard, binOp, shr32]
        · split at h
          · rename_i h1; obtain ⟨rfl, rfl⟩ := h1; cases h; simp [eqGuard, binOp, shr1]
          · cases h
      cases op <;> simp at h hs <;> (first | (subst h; simp [eqGuard, binOp, Op.intArith, Op.intCmp]; done) | (obtain ⟨⟨rfl, rfl⟩, rfl⟩ := h; simp [eqGuard, binOp, and32]; done) | (obtain ⟨h1, rfl⟩ := h; simp [eqGuard, binOp, Op.intDiv, h1]; done))
    · cases h
  · split at h
    · rename_i ht
      have ht := boolT_eq ht
      cases op <;> simp at h <;> (subst h; simp [eqGuard, binOp, Op.equal, Op.maxDepth, run_equalIn_bool' _ _ _ _ _ ht, bne])
    · cases h
  · rename_i a b
    have h3 : IntKind.i64.max = 9223372036854775807 := by decide
    cases op <;> simp at h <;> (first | (subst h; simp [eqGuard, binOp, Op.stringOp]; done) | (obtain ⟨h1, rfl⟩ := h; simp [eqGuard, binOp, Op.stringOp, h3]; omega))
  · cases h
theorem unV_run {op : UnOp} {x v : Value} (h : unV op x = some v) (w : World) : (Op.unary op x).run P w = .ok v w := by
  unfold unV at h
  split at h
  · cases op <;> simp at h <;> (subst h; simp [Op.unary, Op.intArith])
  · cases op <;> simp at h <;> (subst h; simp [Op.unary])
  · cases h

/-- What is told at an address, cell by cell. -/
def Cells (M : Nat → Prop) (w : World) (m : Mem) (ρ : Nat → Value) (A : Addr) (cs : List PV) : Prop := ∀ (j : Nat) (p : PV), cs[j]? = some p → ∃ u, w.cell? (A.add j) = some u ∧ u.oneCell' = true ∧ Rep M w m ρ p u
theorem Cells.drop {A : Addr} {cs : List PV} (h : Cells M w m ρ A cs) (k : Nat) : Cells M w m ρ (A.add k) (cs.drop k) := by
  intro j p hj
  rw [List.getElem?_drop] at hj
  obtain ⟨u, h1, h2, h3⟩ := h _ _ hj
  exact ⟨u, by rw [Addr.add_add]; exact h1, h2, h3⟩
theorem BlkOk.cells_var {v : Value} {cs : List PV} (h : BlkOk P M w m ρ v (.var cs)) : ∃ g, v = .pointer (some ⟨g, 0, none⟩) ∧ Cells M w m ρ ⟨g, 0, none⟩ cs := by
  cases h with
  | var hg hl hj h1 =>
    refine ⟨_, rfl, fun j p hp => ?_⟩
    have hlt := lt_of_get hp
    rename_i g t vs
    have hv : vs[j]? = some (vs[j]'(by omega)) := Array.getElem?_eq_getElem (by omega)
    refine ⟨_, ?_, h1 _ (Array.getElem_mem (by omega)), hj j p _ hp hv⟩
    rw [add_none, Nat.zero_add]
    simp only [World.cell?, hg, Option.isSome_none, Bool.false_eq_true, if_false]
    exact hv
theorem BlkOk.cells_row {v : Value} {e : TypeId} {es : List (List PV)} (h : BlkOk P M w m ρ v (.row e es)) {i : Nat} {x : List PV} (hi : es[i]? = some x) :
    ∃ g c, v = .slice (some ⟨g, 0, none⟩) es.length c ∧ Cells M w m ρ ⟨g, i * x.length, none⟩ x := by
  cases h with
  | row hinf hz hzs h0 hby hlen ho hs hf hx h1 =>
    rename_i xs inf z
    have hlt := lt_of_get hi
    have hxl : x.length = inf.size := hs x (List.mem_of_getElem? hi)
    obtain ⟨g, c, rfl, _, _⟩ := ho.form (by omega)
    refine ⟨g, c, rfl, fun j p hp => ?_⟩
    obtain ⟨u, hu, him⟩ := hx i j x p hi hp
    refine ⟨u, ?_, h1 u (List.mem_of_getElem? hu), .im him⟩
    have := ho.cells (g := g) rfl _ u hu
    rw [add_none] at this ⊢
    rw [hxl]
    simpa [Nat.add_comm] using this
theorem at1_sound (hb : ∀ b x, m[b]? = some x → BlkOk P M w m ρ (ρ b) x) {p : PV} {v : Value} {K : List PV → Prop} (hp : Rep M w m ρ p v) (h : at1 m p K) : ∃ cs A, K cs ∧ v = .pointer (some A) ∧ Cells M w m ρ A cs := by
  unfold at1 at h
  split at h
  · rename_i b o
    obtain ⟨cs, hm, h⟩ := onVarB_e h
    cases hp with
    | im hi => cases hi
    | adr hm' hg =>
      rename_i g _
      obtain ⟨g', e, hc⟩ := (hb _ _ hm).cells_var
      rw [hg] at e
      cases e
      refine ⟨_, _, h, rfl, ?_⟩
      have := hc.drop o
      rwa [add_none, Nat.zero_add] at this
  · rename_i b i j
    obtain ⟨e, es, hm, h⟩ := onRowB_e h
    obtain ⟨x, hx, h⟩ := onS_e h
    cases hp with
    | im hi => cases hi
    | ead hm' hi hs hg =>
      rw [hm] at hm'; cases hm'
      obtain ⟨g', c, e, hc⟩ := (hb _ _ hm).cells_row hx
      rw [hg] at e
      cases e
      refine ⟨_, _, h, rfl, ?_⟩
      have := hc.drop j
      rw [hs x (List.mem_of_getElem? hx)] at this
      rwa [add_none] at this
  · rename_i cs
    cases hp with
    | im hi => cases hi
    | cad u h1 h2 => exact ⟨cs, _, h, rfl, fun j p hj => ⟨u j, (h1 j p hj).1, (h1 j p hj).2.2, .im (h2 j p hj)⟩⟩
  · cases h
theorem load_sound {t : TypeId} {A : Addr} {cs : List PV} {p : PV} (hc : Cells M w m ρ A cs) (h : loadC P t cs = some p) : ∃ v, (Instr.loadAt t (.pointer (some A))).run P w = .ok v w ∧ (loadVar t A).run P w = .ok v w ∧ Rep M w m ρ p v := by
  unfold loadC at h
  split at h
  · rename_i fs i hu hi
    split at h
    · rename_i hlen
      cases h
      have hex : ∀ j, j < i.size → ∃ u, w.cell? (A.add j) = some u ∧ u.oneCell' = true ∧ ∀ p, cs[j]? = some p → Rep M w m ρ p u := by
        intro j hj
        obtain ⟨u, h1, h2, h3⟩ := hc j _ (List.getElem?_eq_getElem (by omega : j < cs.length))
        exact ⟨u, h1, h2, fun p hp => by rw [List.getElem?_eq_getElem (by omega : j < cs.length)] at hp; cases hp; exact h3⟩
      let f : Nat → Value := fun j => if hj : j < i.size then (hex j hj).choose else undef
      have hf : ∀ j (hj : j < i.size), w.cell? (A.add j) = some (f j) ∧ (f j).oneCell' = true ∧ ∀ p, cs[j]? = some p → Rep M w m ρ p (f j) := by
        intro j hj
        simp only [f, dif_pos hj]
        exact (hex j hj).choose_spec
      have hload : (loadVar t A).run P w = .ok (.agg ((List.range i.size).map f).toArray) w := by
        simp only [loadVar, isAgg, sizeOf, typeInfo, Sem.run_bind, Sem.run_pure, Result.andThen_ok, run_underlying hu, run_program, hi, if_true]
        rw [run_loadCells w A i.size f (fun j hj => (hf j hj).1)]
        simp
      refine ⟨.agg ((List.range i.size).map f).toArray, ?_, hload, .agg (by simp; omega) (fun j p v hp hv => ?_) (fun v hv => ?_)⟩
      · simp only [Instr.loadAt, Instr.sureAddr, Sem.run_bind, Sem.run_pure, Result.andThen_ok, hload]
      · rw [List.getElem?_take] at hp
        split at hp
        · rename_i hj
          simp [hj] at hv
          subst hv
          exact (hf j hj).2.2 p hp
        · cases hp
      · simp at hv
        obtain ⟨j, hj, rfl⟩ := hv
        exact (hf j hj).2.1
    · cases h
  · cases h
  · rename_i d i hn1 hn2 hu hi
    cases cs with
    | nil => cases h
    | cons q cs =>
      cases h
      obtain ⟨u, h1, h2, h3⟩ := hc 0 p rfl
      have hag : (isAgg t).run P w = .ok false w := by
        cases d <;> simp_all [isAgg, run_underlying hu]
      have h1' : w.cell? A = some u := by simpa [Addr.add] using h1
      have hload : (loadVar t A).run P w = .ok u w := by
        simp only [loadVar, Sem.run_bind, Sem.run_pure, Result.andThen_ok, hag, Bool.false_eq_true, if_false, run_load, h1']
      refine ⟨u, ?_, hload, h3⟩
      simp only [Instr.loadAt, Instr.sureAddr, Sem.run_bind, Sem.run_pure, Result.andThen_ok, hload]
  · cases h
theorem Inv.then (h : Inv c tm m ρ a w) {d : Option Tmp} (hd : ∀ t, d = some t → t < c.N) {p : PV} {v : Value} (hp : Rep c.M w m ρ p v) {k : Tm → Mem → Prop} (hk : k (V.put tm d p) m) : Then c k (a.put d v) w :=
  ⟨_, m, ρ, hk, h.put hd hp⟩
/-- An operation that only reads. -/
def Quiet (P : Program) (o : Oper) (a : Act) (w : World) (K : Act → World → Prop) : Prop := ∃ v, (execOp a.eval o).run P w = .ok (.value v) w ∧ K (a.put o.dst v) w
theorem q_value {o : Oper} {K : Act → World → Prop} {v : Value} (h : (execOp a.eval o).run P w = .ok (.value v) w) (hn : K (a.put o.dst v) w) : Quiet P o a w K := ⟨v, h, hn⟩
theorem Quiet.wp {o : Oper} {K : Act → World → Prop} {Q : Exit → Act → World → Prop} (h : Quiet P o a w K) : o.wp P a w K Q := by
  obtain ⟨v, h1, h2⟩ := h
  exact wp_value h1 h2
/-- A row, told as it is read. -/
def RowAt (M : Nat → Prop) (w : World) (m : Mem) (ρ : Nat → Value) (v : Value) (es : List (List PV)) : Prop :=
  ∃ A c sz, v = .slice A es.length c ∧ es.length ≤ maxLen ∧ es.length ≤ c ∧ (∀ x ∈ es, x.length = sz) ∧ (A = none → es.length = 0) ∧
    (es.length = 0 ∨ ∃ ad, A = some ad ∧ ∀ (i j : Nat) (x : List PV) (p : PV), es[i]? = some x → x[j]? = some p → ∃ u, w.cell? (ad.add (i * sz + j)) = some u ∧ u.oneCell' = true ∧ Im w (Mine M m ρ) p u)
theorem BlkOk.rowAt {v : Value} {e : TypeId} {es : List (List PV)} (h : BlkOk P M w m ρ v (.row e es)) : RowAt M w m ρ v es := by
  cases h with
  | row hinf hz hzs h0 hby hlen ho hs hf hx h1 =>
    rename_i xs inf z
    rcases ho.2 with ⟨rfl, h0'⟩ | ⟨g, cap, cur, rfl, hb, hg, hc, hcm, hcs, ht⟩
    · refine ⟨none, 0, inf.size, by rw [h0'], by omega, by omega, hs, fun _ => h0', .inl h0'⟩
    · refine ⟨_, cap, inf.size, rfl, by omega, hc, hs, (fun e => by cases e), .inr ⟨_, rfl, fun i j x p hi hj => ?_⟩⟩
      obtain ⟨u, hu, him⟩ := hx i j x p hi hj
      exact ⟨u, ho.cells (g := g) rfl _ u hu, h1 u (List.mem_of_getElem? hu), him⟩
theorem part_get {es : List (List PV)} {l h q : Nat} {y : List PV} (hy : ((es.take h).drop l)[q]? = some y) : es[l + q]? = some y ∧ l + q < h := by
  rw [List.getElem?_drop, List.getElem?_take] at hy
  split at hy
  · rename_i hlt; exact ⟨hy, hlt⟩
  · cases hy
theorem BlkOk.rowAt_osl {v : Value} {e : TypeId} {es : List (List PV)} (h : BlkOk P M w m ρ v (.row e es)) {l hh n c' sz g cc : Nat} {A : Option Addr} (hl : l ≤ hh) (hhl : hh ≤ es.length) (hc : hh - l ≤ cc) (hx : cc ≤ maxLen) (hs : ∀ x ∈ es, x.length = sz) (hA : l = hh ∨ A = some ⟨g, l * sz, none⟩ ∧ v = .slice (some ⟨g, 0, none⟩) n c') :
    RowAt M w m ρ (.slice A (hh - l) cc) ((es.take hh).drop l) := by
  have hlen : ((es.take hh).drop l).length = hh - l := by simp; omega
  refine ⟨A, cc, sz, by rw [hlen], by omega, by omega, fun x hx => hs x (List.mem_of_mem_take (List.mem_of_mem_drop hx)), fun e => ?_, ?_⟩
  · rcases hA with hA | ⟨rfl, _⟩
    · omega
    · cases e
  · rcases hA with hA | ⟨rfl, rfl⟩
    · left; omega
    · by_cases hz : ((es.take hh).drop l).length = 0
      · exact .inl hz
      · right
        refine ⟨_, rfl, fun i j x p hi hj => ?_⟩
        obtain ⟨hi', _⟩ := part_get hi
        cases h with
        | row hinf hz hzs h0 hby hlen ho hs' hf hxx h1 =>
          rename_i xs inf z
          have e1 : inf.size = sz := by rw [← hs' x (List.mem_of_getElem? hi'), hs x (List.mem_of_getElem? hi')]
          subst e1
          obtain ⟨u, hu, him⟩ := hxx _ j x p hi' hj
          refine ⟨u, ?_, h1 u (List.mem_of_getElem? hu), him⟩
          have := ho.cells (g := g) rfl _ u hu
          rw [add_none, Nat.zero_add] at this
          rw [add_none]
          rw [Nat.add_mul, Nat.add_assoc] at this
          exact this
theorem row1_sound (hb : ∀ b x, m[b]? = some x → BlkOk P M w m ρ (ρ b) x) {p : PV} {v : Value} {K : List (List PV) → Prop} (hp : Rep M w m ρ p v) (h : row1 m p K) : ∃ es, K es ∧ RowAt M w m ρ v es := by
  unfold row1 at h
  split at h
  · rename_i es
    cases hp with
    | im hi =>
      cases hi with
      | sl u hn hx hc hs hA hr =>
        subst hn
        rename_i A c sz
        refine ⟨es, h, A, _, _, rfl, hx, hc, hs, fun e => ?_, ?_⟩
        · rcases hA with h0 | ⟨ad, rfl, _⟩
          · exact h0
          · cases e
        · rcases hA with h0 | ⟨ad, rfl, hA⟩
          · exact .inl h0
          · exact .inr ⟨ad, rfl, fun i j x p hi hj => ⟨u i j, (hA i j x p hi hj).1, (hA i j x p hi hj).2.2, hr i j x p hi hj⟩⟩
  · obtain ⟨e, es, hm, h⟩ := onRowB_e h
    · cases hp with
      | im hi => cases hi
      | own hm' => exact ⟨es, h, (hb _ _ hm).rowAt⟩
  · rename_i b l hh
    obtain ⟨e, es, hm, h⟩ := onRowB_e h
    · cases hp with
      | im hi => cases hi
      | osl0 hm' hl hg =>
        rename_i n c A e' es' _
        rw [hm] at hm'; cases hm'
        refine ⟨_, h, ?_⟩
        have hok := hb _ _ hm
        rw [hg] at hok
        have hra := hok.rowAt
        obtain ⟨A', c', sz, e1, h1, h2, h3, h4, h5⟩ := hra
        cases e1
        have hlen : ((es.take hh).drop 0).length = hh := by simp; omega
        refine ⟨A, c, sz, by rw [hlen], by omega, by omega, fun x hx => h3 x (List.mem_of_mem_take (List.mem_of_mem_drop hx)), fun e => by have := h4 e; omega, ?_⟩
        by_cases hz : hh = 0
        · left; omega
        · right
          rcases h5 with h5 | ⟨ad, rfl, h5⟩
          · omega
          · refine ⟨ad, rfl, fun i j x p hi hj => ?_⟩
            obtain ⟨hi', _⟩ := part_get hi
            rw [Nat.zero_add] at hi'
            exact h5 i j x p hi' hj
      | osl hm' h0 hl hhl hc hx hs hg =>
        rw [hm] at hm'; cases hm'
        exact ⟨_, h, (hb _ _ hm).rowAt_osl hl hhl hc hx hs (hg.1.imp (fun e => by omega) fun e => ⟨e, hg.2.1⟩)⟩
  · have := hp.val_eq; subst this
    exact ⟨[], h, none, 0, 0, rfl, by simp, by simp, by simp, by simp, .inl rfl⟩
  · cases h
end
end Go.V
set_option linter.unusedVariables false
set_option linter.unusedSimpArgs false
namespace Go.V
open Go
section
variable {c : Cx} {P : Program} {M M' : Nat → Prop} {w0 w w' : World} {S : Nat → Prop} {N : Nat} {tm : Tm} {m m' : Mem} {ρ ρ' : Nat → Value} {a : Act}
variable {np : Nat} {lent : FuncId → Bool} {kp : Value → Tm → Mem → Prop} {d : Option Tmp} {ty : TypeId} {pos : String} {af : Array Edge} {g : Option (Nat × Bool)} {k : Tm → Mem → Prop} {Q : Exit → Act → World → Prop}
theorem s_move (h : Inv c tm m ρ a w) (hd : ∀ t, d = some t → t < c.N) {x : Operand} (hs : step c.P np lent kp tm m d ty k (.move x)) : Quiet c.P ⟨d, .move x, ty, pos, af, g⟩ a w (Then c k) :=
  q_value (v := a.eval x) rfl (h.then hd (h.ev x) hs)
theorem s_pick (h : Inv c tm m ρ a w) (hd : ∀ t, d = some t → t < c.N) {x0 x y : Operand} (hs : step c.P np lent kp tm m d ty k (.pick x0 x y)) : Quiet c.P ⟨d, .pick x0 x y, ty, pos, af, g⟩ a w (Then c k) := by
  simp only [step] at hs
  obtain ⟨b, hc, hs⟩ := onBool_e hs
  unfold ifB at hs
  · have hv := (hc ▸ h.ev x0 : Rep c.M w m ρ (.val (.bool b)) (a.eval x0)).val_eq
    refine q_value (v := if b = true then a.eval x else a.eval y) (by simp [execOp, hv, asBool]) ?_
    split at hs
    · rename_i hb; rw [if_pos hb]; exact h.then hd (h.ev x) hs
    · rename_i hb; rw [if_neg hb]; exact h.then hd (h.ev y) hs
theorem s_load (h : Inv c tm m ρ a w) (hd : ∀ t, d = some t → t < c.N) {t : TypeId} {x : Operand} (hs : step c.P np lent kp tm m d ty k (.load t x)) : Quiet c.P ⟨d, .load t x, ty, pos, af, g⟩ a w (Then c k) := by
  simp only [step] at hs
  obtain ⟨cs, A, hs, hA, hc⟩ := at1_sound h.blk (h.ev x) hs
  obtain ⟨p, hp, hs⟩ := onS_e hs
  obtain ⟨v, hv, _, hr⟩ := load_sound hc hp
  exact q_value (v := v) (by simp [execOp, hA, hv]) (h.then hd hr hs)
theorem fieldOff_eq {s : TypeId} {f o : Nat} (h : fieldOff P s f = some o) : ∃ fs x i, P.underlying s = some (.struct fs) ∧ fs[f]? = some x ∧ P.info? x.type = some i ∧ i.size ≠ 0 ∧ x.offset = o := by
  unfold fieldOff at h
  split at h
  · rename_i fs hu
    split at h
    · rename_i x hx
      split at h
      · rename_i i hi
        split at h
        · cases h
        · rename_i h0; cases h; exact ⟨fs, x, i, hu, hx, hi, h0, rfl⟩
      · cases h
    · cases h
  · cases h
theorem field_run {s : TypeId} {f o : Nat} (h : fieldOff P s f = some o) (A : Addr) (w : World) : (Instr.fieldAt s (.pointer (some A)) f).run P w = .ok (.pointer (some (A.add o))) w := by
  obtain ⟨fs, x, i, hu, hx, hi, h0, rfl⟩ := fieldOff_eq h
  simp [Instr.fieldAt, run_underlying hu, hx, Instr.sureAddr, fieldPlace, sizeOf, typeInfo, hi, h0]
theorem s_fieldAddr (h : Inv c tm m ρ a w) (hd : ∀ t, d = some t → t < c.N) {s : TypeId} {x : Operand} {f : Nat} (hs : step c.P np lent kp tm m d ty k (.fieldAddr s x f)) : Quiet c.P ⟨d, .fieldAddr s x f, ty, pos, af, g⟩ a w (Then c k) := by
  simp only [step] at hs
  obtain ⟨o, ho, hs⟩ := onS_e hs
  unfold onPtr at hs
  · have hx := h.ev x
    generalize hq : a.eval x = vx at hx
    have go : ∀ A : Addr, vx = .pointer (some A) → (execOp a.eval ⟨d, .fieldAddr s x f, ty, pos, af, g⟩).run c.P w = .ok (.value (.pointer (some (A.add o)))) w := by
      intro A hA
      simp [execOp, hq, hA, field_run ho]
    split at hs
    · rename_i b o' he
      rw [he] at hx
      cases hx with
      | im hi => cases hi
      | adr hm hg => refine q_value (go _ rfl) (h.then hd ?_ hs); rw [add_none]; exact .adr hm hg
    · rename_i b i j he
      rw [he] at hx
      cases hx with
      | im hi => cases hi
      | ead hm hi hz hg => refine q_value (go _ rfl) (h.then hd ?_ hs); rw [add_none, Nat.add_assoc]; exact .ead hm hi hz hg
    · rename_i cs he
      rw [he] at hx
      cases hx with
      | im hi => cases hi
      | cad u h1 h2 =>
        refine q_value (go _ rfl) (h.then hd (.cad (fun j => u (o + j)) (fun j p hj => ?_) (fun j p hj => ?_)) hs)
        · rw [List.getElem?_drop] at hj
          rw [Addr.add_add, add_block]
          exact h1 _ _ hj
        · rw [List.getElem?_drop] at hj
          exact h2 _ _ hj
    · cases hs
theorem elemOf_eq {t e : TypeId} (h : elemOf P t = some e) : P.underlying t = some (.slice e) := by
  unfold elemOf at h
  split at h
  · rename_i e' hu; cases h; exact hu
  · cases h
theorem elemSize_eq {t : TypeId} {n : Nat} (h : elemSize P t = some n) : ∃ e i, P.underlying t = some (.slice e) ∧ P.info? e = some i ∧ i.size = n := by
  unfold elemSize at h
  cases he : elemOf P t with
  | none => rw [he] at h; cases h
  | some e =>
    rw [he] at h
    cases hi : P.info? e with
    | none => simp [hi] at h
    | some i => simp [hi] at h; exact ⟨e, i, elemOf_eq he, hi, h⟩
theorem idx_eq {es : List (List PV)} {n : Int} {cs : List PV} (h : idx es n = some cs) : 0 ≤ n ∧ n < es.length ∧ es[n.toNat]? = some cs := by
  unfold idx at h
  split at h
  · rename_i hc; exact ⟨hc.1, hc.2, h⟩
  · cases h
theorem index_run {t : TypeId} {sz : Nat} (h : elemSize P t = some sz) {kd : IntKind} {n : Int} {ad : Addr} {l c : Nat} (h0 : 0 ≤ n) (h1 : n < l) (w : World) : (Instr.indexAt t (.slice (some ad) l c) (.int kd n)).run P w = .ok (.pointer (some (ad.add (n.toNat * sz)))) w := by
  obtain ⟨e, i, hu, hi, rfl⟩ := elemSize_eq h
  simp [Instr.indexAt, asIntOf, run_underlying hu, sizeOf, typeInfo, hi, h0, h1]
theorem s_indexAddr (h : Inv c tm m ρ a w) (hd : ∀ t, d = some t → t < c.N) {t : TypeId} {x i : Operand} (hs : step c.P np lent kp tm m d ty k (.indexAddr t x i)) : Quiet c.P ⟨d, .indexAddr t x i, ty, pos, af, g⟩ a w (Then c k) := by
  simp only [step] at hs
  obtain ⟨kd, n, hi, hs⟩ := onInt_e hs
  unfold onRow at hs
  · have hiv := (hi ▸ h.ev i : Rep c.M w m ρ (.val (.int kd n)) (a.eval i)).val_eq
    have hx := h.ev x
    generalize hq : a.eval x = vx at hx
    split at hs
    · rename_i es he
      rw [he] at hx
      obtain ⟨cs, hidx, hsz, hs⟩ := onS_e hs
      · obtain ⟨h0, h1, hget⟩ := idx_eq hidx
        · cases hx with
          | im hi' =>
            cases hi' with
            | sl u hn hmx hc hl hA hr =>
              subst hn
              rcases hA with h0' | ⟨ad, rfl, hA⟩
              · omega
              · have hcl := hl cs (List.mem_of_getElem? hget)
                refine q_value (v := .pointer (some (ad.add (n.toNat * cs.length)))) (by simp [execOp, hq, hiv, index_run hsz h0 h1]) (h.then hd (.cad (u n.toNat) (fun j p hj => ?_) (fun j p hj => hr _ _ _ _ hget hj)) hs)
                obtain ⟨c1, c2, c3⟩ := hA _ _ _ _ hget hj
                rw [Addr.add_add, add_block, hcl]
                exact ⟨c1, fun ho => c2 (.inr ho), c3⟩
    · rename_i b he
      rw [he] at hx
      obtain ⟨e, es, hm, hs⟩ := onRowB_e hs
      · obtain ⟨cs, hidx, hsz, hs⟩ := onS_e hs
        · obtain ⟨h0, h1, hget⟩ := idx_eq hidx
          · cases hx with
            | im hi' => cases hi'
            | own hm' =>
              have hb := h.blk _ _ hm
              obtain ⟨g', cc, hv, _⟩ := hb.cells_row hget
              have hall : ∀ x ∈ es, x.length = cs.length := by
                obtain ⟨_, _, _, _, _, _, hl, _⟩ := hb.rowAt
                intro x hx'; rw [hl x hx', hl cs (List.mem_of_getElem? hget)]
              refine q_value (v := .pointer (some ⟨g', n.toNat * cs.length + 0, none⟩)) ?_ (h.then hd (.ead hm (by omega) hall hv) hs)
              simp [execOp, hq, hv, hiv, index_run hsz h0 h1, add_none]
    · rename_i b l hh he
      rw [he] at hx
      obtain ⟨e, es, hm, hs⟩ := onRowB_e hs
      · obtain ⟨cs, hidx, hsz, hs⟩ := onS_e hs
        · obtain ⟨h0, h1, hget⟩ := idx_eq hidx
          · obtain ⟨hget', hlt⟩ := part_get hget
            have hb := h.blk _ _ hm
            obtain ⟨g', cc, hv, _⟩ := hb.cells_row hget'
            have hall : ∀ x ∈ es, x.length = cs.length := by
              obtain ⟨_, _, _, _, _, _, hl, _⟩ := hb.rowAt
              intro x hx'; rw [hl x hx', hl cs (List.mem_of_getElem? hget')]
            have hel := lt_of_get hget'
            cases hx with
            | im hi' => cases hi'
            | osl0 hm' hl hg =>
              rename_i n' c' A' e' es'
              rw [hv] at hg
              cases hg
              refine q_value (v := .pointer (some ⟨g', n.toNat * cs.length, none⟩)) ?_ (h.then hd ?_ hs)
              · simp [execOp, hq, hiv, index_run hsz h0 (show n < (hh : Int) by omega), add_none]
              · have := Rep.ead (M := c.M) (w := w) (j := 0) hm (i := n.toNat) (by omega) hall hv
                rw [Nat.zero_add]; exact this
            | osl hm' h0l hl hhl hc hx' hs' hg =>
              rename_i c' n' c'' sz g A e' es'
              rw [hm] at hm'; cases hm'
              obtain ⟨hg1, hg, _⟩ := hg
              rcases hg1 with hg1 | rfl
              · omega
              · rw [hv] at hg
                cases hg
                have esz : sz = cs.length := by rw [← hs' cs (List.mem_of_getElem? hget')]
                subst esz
                refine q_value (v := .pointer (some ⟨g', (l + n.toNat) * cs.length, none⟩)) ?_ (h.then hd ?_ hs)
                · simp [execOp, hq, hiv, index_run hsz h0 (show n < ((hh - l : Nat) : Int) by omega), add_none, Nat.add_mul]
                · exact Rep.ead (M := c.M) (w := w) (j := 0) hm (i := l + n.toNat) (by omega) hall hv
    · cases hs
theorem val_at {cs : List PV} {vs : Array Value} (hl : cs.length = vs.size) {i : Nat} {p : PV} (hp : cs[i]? = some p) : ∃ v, vs[i]? = some v := by
  have hlt := lt_of_get hp
  exact ⟨_, Array.getElem?_eq_getElem (by omega)⟩
theorem s_extract (h : Inv c tm m ρ a w) (hd : ∀ t, d = some t → t < c.N) {x : Operand} {i : Nat} (hs : step c.P np lent kp tm m d ty k (.extract x i)) : Quiet c.P ⟨d, .extract x i, ty, pos, af, g⟩ a w (Then c k) := by
  simp only [step] at hs
  have hx := h.ev x
  generalize hq : a.eval x = vx at hx
  obtain ⟨vs, he, hs⟩ := onTup_e hs
  · rw [he] at hx
    obtain ⟨p, hp, hs⟩ := onS_e hs
    · have key : ∃ us : Array Value, vx = .tuple us ∧ vs.length = us.size ∧ ∀ (i : Nat) (p : PV) (v : Value), vs[i]? = some p → us[i]? = some v → Rep c.M w m ρ p v := by
        cases hx with
        | im hi => cases hi with
          | tup hl h1 => exact ⟨_, rfl, hl, fun i p v hp hv => .im (h1 i p v hp hv)⟩
        | tup hl h1 => exact ⟨_, rfl, hl, h1⟩
      obtain ⟨us, rfl, hl, h1⟩ := key
      obtain ⟨v, hv⟩ := val_at hl hp
      exact q_value (v := v) (by simp [execOp, hq, Instr.extract, hv]) (h.then hd (h1 i p _ hp hv) hs)
theorem equalIn_nil {t e : TypeId} (he : P.underlying t = some (.slice e)) (d : Nat) (A : Option Addr) (n cc : Nat) (w : World) : (Op.equalIn (d + 1) t (.slice A n cc) (.slice none 0 0)).run P w = .ok A.isNone w := by
  cases A <;> simp [Op.equalIn, run_underlying he]
theorem nil_run {t : TypeId} (ht : sliceT P t = true) {A : Option Addr} {n cc : Nat} (ox : Operand) (neg : Bool) (w : World) : (do eqGuard (if neg = true then .neq else .eql) t ox (.const (.slice none 0 0)) (.slice A n cc) (.slice none 0 0); binOp (if neg = true then .neq else .eql) t (.slice A n cc) (.slice none 0 0) : Sem Value).run P w = .ok (.bool (if neg = true then !A.isNone else A.isNone)) w := by
  obtain ⟨e, he⟩ := sliceT_eq ht
  have := equalIn_nil he 9999 A n cc w
  rw [show (9999 + 1 : Nat) = 10000 from rfl] at this
  cases neg
  · simp only [Bool.false_eq_true, if_false, eqGuard, binOp, Op.equal, Op.maxDepth, Sem.run_bind]; simp [this]
  · simp only [if_true, eqGuard, binOp, Op.equal, Op.maxDepth, Sem.run_bind]; simp [this]
theorem Rep.agg_vals {cs : List PV} {v : Value} (h : Rep M w m ρ (.agg cs) v) : ∃ xs : Array Value, v = .agg xs ∧ ∀ (i : Nat) (x : Value), cs[i]? = some (PV.val x) → xs[i]? = some x := by
  cases h with
  | im h =>
    cases h with
    | @agg _ vs hl hi _ =>
      refine ⟨vs, rfl, fun i x hx => ?_⟩
      have hlt : i < vs.size := by rw [← hl]; exact lt_of_get hx
      have hv : vs[i]? = some vs[i] := Array.getElem?_eq_getElem hlt
      rw [hv]
      have := hi i _ _ hx hv
      cases this; rfl
  | @agg _ vs hl hi _ =>
    refine ⟨vs, rfl, fun i x hx => ?_⟩
    have hlt : i < vs.size := by rw [← hl]; exact lt_of_get hx
    have hv : vs[i]? = some vs[i] := Array.getElem?_eq_getElem hlt
    rw [hv, (hi i _ _ hx hv).val_eq]
theorem eqGo_run {P : Program} {xs ys : Array Value} {cs ds : List PV} (hx : ∀ (i : Nat) (x : Value), cs[i]? = some (PV.val x) → xs[i]? = some x) (hy : ∀ (i : Nat) (x : Value), ds[i]? = some (PV.val x) → ys[i]? = some x) (w : World) (d : Nat) :
    ∀ (fs : List Field) (l : List (Nat × Nat)) (b : Bool), fs.mapM (fun f => if f.name = "_" then none else match P.underlying f.type with
      | some (.int _) => some (f.offset, 0)
      | some .bool => some (f.offset, 1)
      | some .string => some (f.offset, 2)
      | _ => none) = some l → eqGo l cs ds = some b → (Op.eqFields (d + 1) xs ys fs).run P w = .ok b w
  | [], l, b, hl, hb => by
    simp at hl; subst hl
    rw [eqGo] at hb; cases hb
    simp [Op.eqFields]
  | f :: fs, l, b, hl, hb => by
    rw [List.mapM_cons] at hl
    simp only [bind, Option.bind_eq_some_iff] at hl
    obtain ⟨q, hq, l', hl', he⟩ := hl
    cases he
    have key : ∀ (r b' : Bool) (u v : Value), f.name ≠ "_" → P.plainKey f.type = true → xs[f.offset]? = some u → ys[f.offset]? = some v → (Op.equalIn (d + 1) f.type u v).run P w = .ok r w → eqGo l' cs ds = some b' → b = (r && b') → (Op.eqFields (d + 1) xs ys (f :: fs)).run P w = .ok b w := fun r b' u v hn hp hu hv hr hb' he => by
      have ih := eqGo_run hx hy w d fs l' b' hl' hb'
      simp only [Op.eqFields, hn, ne_eq, not_false_eq_true, if_true, Sem.run_bind, run_part_plain w hp hu, run_part_plain w hp hv, hr, Result.andThen_ok]
      subst he
      cases r
      · simp
      · simpa using ih
    split at hq
    · cases hq
    · rename_i hn
      split at hq
      · rename_i k hu
        cases hq
        rw [eqGo] at hb
        split at hb
        · rename_i ka a kb b' e1 e2
          split at hb
          · rename_i hk
            subst hk
            obtain ⟨b', hb', rfl⟩ := Option.map_eq_some_iff.1 hb
            exact key _ b' _ _ hn (by simp [Program.plainKey, hu]) (hx _ _ e1) (hy _ _ e2) (run_equalIn_int w d _ _ _ _ _ hu) hb' rfl
          · cases hb
        · cases hb
      · rename_i hu
        cases hq
        rw [eqGo] at hb
        split at hb
        · rename_i a b' e1 e2
          obtain ⟨b', hb', rfl⟩ := Option.map_eq_some_iff.1 hb
          exact key _ b' _ _ hn (by simp [Program.plainKey, hu]) (hx _ _ e1) (hy _ _ e2) (run_equalIn_bool w d _ _ _ hu) hb' rfl
        · cases hb
      · rename_i hu
        cases hq
        rw [eqGo] at hb
        split at hb
        · rename_i a b' e1 e2
          obtain ⟨b', hb', rfl⟩ := Option.map_eq_some_iff.1 hb
          exact key _ b' _ _ hn (by simp [Program.plainKey, hu]) (hx _ _ e1) (hy _ _ e2) (run_equalIn_string w d _ _ _ hu) hb' rfl
        · cases hb
      · cases hq
theorem eqShape_run {P : Program} {t : TypeId} {l : List (Nat × Nat)} {b : Bool} {xs ys : Array Value} {cs ds : List PV} (hl : eqShape P t = some l) (hb : eqGo l cs ds = some b) (hx : ∀ (i : Nat) (x : Value), cs[i]? = some (PV.val x) → xs[i]? = some x) (hy : ∀ (i : Nat) (x : Value), ds[i]? = some (PV.val x) → ys[i]? = some x) (w : World) (x y : Operand) :
    (∀ op, (eqGuard op t x y (.agg xs) (.agg ys)).run P w = .ok () w) ∧ (Op.equalIn 10000 t (.agg xs) (.agg ys)).run P w = .ok b w := by
  unfold eqShape at hl
  split at hl
  · rename_i fs hu
    split at hl
    · rename_i hc
      have hf : P.fieldsOf t = fs := by unfold Program.fieldsOf; rw [hu]
      refine ⟨fun op => run_eqGuard_agg w op t x y xs ys hc.2, ?_⟩
      rw [run_equalIn_struct w 9999 t xs ys (by rw [hf]; exact hu) hc.1, hf]
      exact eqGo_run hx hy w 9998 fs.toList l b hl hb
    · cases hl
  · cases hl
theorem s_binOp (h : Inv c tm m ρ a w) (hd : ∀ t, d = some t → t < c.N) {op : BinOp} {t t' : TypeId} {x y : Operand} (hs : step c.P np lent kp tm m d ty k (.binOp op t x y t')) : Quiet c.P ⟨d, .binOp op t x y t', ty, pos, af, g⟩ a w (Then c k) := by
  unfold step at hs
  split at hs
  any_goals (rename_i heq; cases heq; done)
  · rename_i heq
    cases heq
    obtain ⟨ht, hs⟩ := hs
    · obtain ⟨es, hs, A, cc, sz, hv, _, _, _, hA, _⟩ := row1_sound h.blk (h.ev _) hs
      have hnil : A.isNone = true → es = [] := fun e => List.eq_nil_of_length_eq_zero (hA (by simpa using e))
      have hev : a.eval (.const (.slice none 0 0)) = .slice none 0 0 := rfl
      simp only [nilQ] at hs
      split at hs
      · have := nil_run (P := c.P) ht (A := A) (n := es.length) (cc := cc) x false w
        exact q_value (v := .bool A.isNone) (by simp only [execOp, hv, hev, Sem.run_bind] at this ⊢; simp only [Bool.false_eq_true, if_false] at this; rw [this]; rfl) (h.then hd (.im (.val rfl)) (hs _ hnil))
      · have := nil_run (P := c.P) ht (A := A) (n := es.length) (cc := cc) x true w
        exact q_value (v := .bool !A.isNone) (by simp only [execOp, hv, hev, Sem.run_bind] at this ⊢; simp only [if_true] at this; rw [this]; rfl) (h.then hd (.im (.val rfl)) (hs _ hnil))
      · cases hs
  · rename_i heq
    cases heq
    rcases onValA_e hs with ⟨va, hx, hs⟩ | ⟨cs, hx, hs⟩
    · obtain ⟨vb, hy, hs⟩ := onVal_e hs
      obtain ⟨v, hv, hs⟩ := onS_e (learn_e hs (hx ▸ h.ev x : Rep c.M w m ρ (.val va) (a.eval x)).val_ok (hy ▸ h.ev y : Rep c.M w m ρ (.val vb) (a.eval y)).val_ok)
      have hok := binV_ok hv (hx ▸ h.ev x : Rep c.M w m ρ (.val va) (a.eval x)).val_ok (hy ▸ h.ev y : Rep c.M w m ρ (.val vb) (a.eval y)).val_ok
      have hxv := (hx ▸ h.ev x : Rep c.M w m ρ (.val va) (a.eval x)).val_eq
      have hyv := (hy ▸ h.ev y : Rep c.M w m ρ (.val vb) (a.eval y)).val_eq
      have := binV_run (P := c.P) hv x y w
      exact q_value (v := v) (by simp only [execOp, hxv, hyv, Sem.run_bind] at this ⊢; rw [this]; rfl) (h.then hd (.im (.val hok)) hs)
    · obtain ⟨ds, hy, hs⟩ := onAgg_e hs
      obtain ⟨l, hl, hs⟩ := onS_e hs
      obtain ⟨b, hb, hs⟩ := onS_e hs
      obtain ⟨xs, hxe, hxs⟩ := (hx ▸ h.ev x : Rep c.M w m ρ (.agg cs) (a.eval x)).agg_vals
      obtain ⟨ys, hye, hys⟩ := (hy ▸ h.ev y : Rep c.M w m ρ (.agg ds) (a.eval y)).agg_vals
      obtain ⟨hg, hr⟩ := eqShape_run hl hb hxs hys w x y
      split at hs
      · exact q_value (v := .bool b) (by simp only [execOp, hxe, hye, Sem.run_bind, hg .eql, Result.andThen_ok, run_eql_struct, hr]; rfl) (h.then hd (.im (.val rfl)) hs)
      · exact q_value (v := .bool !b) (by simp only [execOp, hxe, hye, Sem.run_bind, hg .neq, Result.andThen_ok, run_neq_struct, hr]; rfl) (h.then hd (.im (.val rfl)) hs)
      · cases hs
  · cases hs
theorem s_unOp (h : Inv c tm m ρ a w) (hd : ∀ t, d = some t → t < c.N) {op : UnOp} {t : TypeId} {x : Operand} (hs : step c.P np lent kp tm m d ty k (.unOp op t x)) : Quiet c.P ⟨d, .unOp op t x, ty, pos, af, g⟩ a w (Then c k) := by
  simp only [step] at hs
  obtain ⟨va, hx, hs⟩ := onVal_e hs
  obtain ⟨v, hv, hs⟩ := onS_e (learn1_e hs (hx ▸ h.ev x : Rep c.M w m ρ (.val va) (a.eval x)).val_ok)
  have hxv := (hx ▸ h.ev x : Rep c.M w m ρ (.val va) (a.eval x)).val_eq
  exact q_value (v := v) (by simp [execOp, hxv, unV_run hv]) (h.then hd (.im (.val (unV_ok hv))) hs)
theorem s_convert (h : Inv c tm m ρ a w) (hd : ∀ t, d = some t → t < c.N) {s t : TypeId} {x : Operand} (hs : step c.P np lent kp tm m d ty k (.convert s t x)) : Quiet c.P ⟨d, .convert s t x, ty, pos, af, g⟩ a w (Then c k) := by
  simp only [step] at hs
  obtain ⟨kd0, n, hx, hs⟩ := onInt_e hs
  obtain ⟨kd, hk, hs⟩ := onS_e (learn1_e hs (hx ▸ h.ev x : Rep c.M w m ρ (.val (.int kd0 n)) (a.eval x)).val_ok)
  · have hxv := (hx ▸ h.ev x : Rep c.M w m ρ (.val (.int kd0 n)) (a.eval x)).val_eq
    unfold intT at hk
    split at hk
    · rename_i us hus hut
      cases hk
      refine q_value (v := .int kd (kd.wrap n)) ?_ (h.then hd (.im (.val (okB_wrap kd n))) hs)
      simp [execOp, convert, run_underlying hus, run_underlying hut, hxv, Conv.intToInt]
    · cases hk
theorem s_makeFunc (h : Inv c tm m ρ a w) (hd : ∀ t, d = some t → t < c.N) {f : Fn} {first caps : Array Operand} (hs : step c.P np lent kp tm m d ty k (.makeFunc f first caps)) : Quiet c.P ⟨d, .makeFunc f first caps, ty, pos, af, g⟩ a w (Then c k) := by
  unfold step at hs
  split at hs
  any_goals (rename_i heq; cases heq; done)
  · rename_i heq
    cases heq
    obtain ⟨hf, hs⟩ := hs
    · have hfirst : first = #[] := by rw [← Array.toList_inj]; exact hf
      subst hfirst
      rename_i f
      refine q_value (v := .func (.func f) #[] (caps.map a.eval)) (by simp [execOp, Instr.makeFunc]) (h.then hd (.fn (by simp) (fun i p v hp hv => ?_)) hs)
      rw [List.getElem?_map] at hp
      obtain ⟨x, hx, rfl⟩ := Option.map_eq_some_iff.1 hp
      rw [Array.getElem?_toList] at hx
      rw [Array.getElem?_map, hx] at hv
      cases hv
      exact h.ev x
  · cases hs
theorem okB_nat (n : Nat) (h : n ≤ 9223372036854775807) : okB (.int .i64 n) = true := by
  refine decide_eq_true ?_
  simp [IntKind.min, IntKind.max, IntKind.bits, IntKind.signed]; omega
theorem strT_eq {t : TypeId} (h : strT P t = true) : P.underlying t = some .string := by
  unfold strT at h
  split at h
  · assumption
  · cases h
theorem s_len (h : Inv c tm m ρ a w) (hd : ∀ t, d = some t → t < c.N) {args : Array Operand} {ts : Array TypeId} (hs : step c.P np lent kp tm m d ty k (.call { callee := .builtin .len, args := args, argTypes := ts })) : Quiet c.P ⟨d, .call { callee := .builtin .len, args := args, argTypes := ts }, ty, pos, af, g⟩ a w (Then c k) := by
  simp only [step] at hs
  obtain ⟨x, hx, hs1⟩ := onOne_e hs
  obtain ⟨t, ht, hs2⟩ := onOne_e hs1
  clear hs hs1
  rename _ => hs
  have hargs : args = #[x] := by rw [← Array.toList_inj]; exact hx
  have hts : ts = #[t] := by rw [← Array.toList_inj]; exact ht
  subst hargs
  subst hts
  unfold ifB at hs
  split at hs
  · rename_i hst
    obtain ⟨s, hxs, hs⟩ := onStr_e hs
    have hv := (hxs ▸ h.ev x : Rep c.M w m ρ (.val (.string s)) (a.eval x)).val_eq
    have hok : s.size ≤ 140737488355328 := of_decide_eq_true (hxs ▸ h.ev x : Rep c.M w m ρ (.val (.string s)) (a.eval x)).val_ok
    exact q_value (v := .int .i64 s.size) (by simp [execOp, resolve, invoke, builtin, Builtin.len_, hv, run_underlying (strT_eq hst), goInt]) (h.then hd (.im (.val (okB_nat s.size (by omega)))) (hs hok))
  · obtain ⟨e, he, hs⟩ := onS_e hs
    obtain ⟨es, hk, A, cc, sz, hv, hmx, _⟩ := row1_sound h.blk (h.ev x) hs
    refine q_value (v := .int .i64 es.length) ?_ (h.then hd (.im (.val (okB_nat es.length hmx))) (hk hmx))
    simp [execOp, resolve, invoke, builtin, Builtin.len_, hv, run_underlying (elemOf_eq he), goInt]
theorem s_min (h : Inv c tm m ρ a w) (hd : ∀ t, d = some t → t < c.N) {args : Array Operand} {ts : Array TypeId} (hs : step c.P np lent kp tm m d ty k (.call { callee := .builtin .min, args := args, argTypes := ts })) : Quiet c.P ⟨d, .call { callee := .builtin .min, args := args, argTypes := ts }, ty, pos, af, g⟩ a w (Then c k) := by
  simp only [step] at hs
  obtain ⟨x, y, hx, hs⟩ := onTwo_e hs
  have hargs : args = #[x, y] := by rw [← Array.toList_inj]; exact hx
  subst hargs
  obtain ⟨kd, n, hx, hs⟩ := onInt_e hs
  obtain ⟨kd', n', hy, rfl, hs⟩ := onInt_e hs
  have hxv := (hx ▸ h.ev x : Rep c.M w m ρ (.val (.int kd n)) (a.eval x)).val_eq
  have hyv := (hy ▸ h.ev y : Rep c.M w m ρ (.val (.int kd n')) (a.eval y)).val_eq
  have hxo := (hx ▸ h.ev x : Rep c.M w m ρ (.val (.int kd n)) (a.eval x)).val_ok
  have hyo := (hy ▸ h.ev y : Rep c.M w m ρ (.val (.int kd n')) (a.eval y)).val_ok
  refine q_value (v := .int kd (if n' < n then n' else n)) ?_ (h.then hd (.im (.val (by split <;> assumption))) hs)
  simp [execOp, resolve, invoke, builtin, Builtin.min_, Builtin.min2, hxv, hyv]
end
end Go.V
set_option linter.unusedVariables false
set_option linter.unusedSectionVars false
set_option linter.unusedSimpArgs false
namespace Go.V
open Go
theorem trs_map (o : Nat → PV) (s : Nat → Nat → Nat → PV) (a : Nat → Nat → PV) (e : Nat → Nat → Nat → PV) (c : List PV → PV) : ∀ l : List PV, trs o s a e c l = l.map (tr o s a e c)
  | [] => by simp [trs]
  | p :: l => by simp [trs, trs_map o s a e c l]
theorem mem_idss : ∀ {l : List PV} {b i : Nat} {p : PV}, l[i]? = some p → b ∈ ids p → b ∈ idss l
  | q :: l, b, 0, p, hp, hb => by simp at hp; subst hp; simp [idss, hb]
  | q :: l, b, i + 1, p, hp, hb => by simp at hp; simp [idss, mem_idss hp hb]
theorem map_eq_of {l : List PV} {f : PV → PV} (h : ∀ (i : Nat) (p : PV), l[i]? = some p → f p = p) : l.map f = l := by
  apply List.ext_getElem?
  intro i
  rw [List.getElem?_map]
  cases hi : l[i]? with
  | none => rfl
  | some p => rw [Option.map_some, h i p hi]
section
variable {c : Cx} {P : Program} {M M' : Nat → Prop} {w0 w w' : World} {S : Nat → Prop} {N : Nat} {tm : Tm} {m m' : Mem} {ρ ρ' : Nat → Value} {a : Act}
theorem Im.tr_eq {Nn : Nat → Prop} {p : PV} {v : Value} (h : Im w Nn p v) (o : Nat → PV) (s : Nat → Nat → Nat → PV) (a : Nat → Nat → PV) (e : Nat → Nat → Nat → PV) (c : List PV → PV) : tr o s a e c p = p := by
  induction h with
  | val => simp [tr]
  | any => simp [tr]
  | sl => simp [tr]
  | agg hl _ _ ih => rw [tr, trs_map, map_eq_of (fun i p hp => let ⟨v, hv⟩ := val_at hl hp; ih i p v hp hv)]
  | tup hl _ ih => rw [tr, trs_map, map_eq_of (fun i p hp => let ⟨v, hv⟩ := val_at hl hp; ih i p v hp hv)]
  | fn hl _ ih => rw [tr, trs_map, map_eq_of (fun i p hp => let ⟨v, hv⟩ := val_at hl hp; ih i p v hp hv)]
theorem Rep.tr {p : PV} {v : Value} (h : Rep M w m ρ p v) (o : Nat → PV) (s : Nat → Nat → Nat → PV) (ad : Nat → Nat → PV) (ea : Nat → Nat → Nat → PV) (cd : List PV → PV) (I : Nat → Prop) (hI : ∀ b ∈ ids p, I b)
    (him : ∀ p v, Im w (Mine M m ρ) p v → Im w' (Mine M' m' ρ') p v)
    (ho : ∀ b e es, I b → m[b]? = some (.row e es) → Rep M' w' m' ρ' (o b) (ρ b))
    (hs : ∀ b l h v e es, I b → m[b]? = some (.row e es) → Rep M w m ρ (.osl b l h) v → Rep M' w' m' ρ' (s b l h) v)
    (ha : ∀ b i g cs, I b → m[b]? = some (.var cs) → ρ b = .pointer (some ⟨g, 0, none⟩) → Rep M' w' m' ρ' (ad b i) (.pointer (some ⟨g, i, none⟩)))
    (he : ∀ b i j g n c sz e es, I b → m[b]? = some (.row e es) → i < es.length → (∀ x ∈ es, x.length = sz) → ρ b = .slice (some ⟨g, 0, none⟩) n c → Rep M' w' m' ρ' (ea b i j) (.pointer (some ⟨g, i * sz + j, none⟩)))
    (hc : ∀ cs v, Rep M w m ρ (.cad cs) v → Rep M' w' m' ρ' (cd cs) v) : Rep M' w' m' ρ' (V.tr o s ad ea cd p) v := by
  induction h with
  | im h => rw [h.tr_eq]; exact .im (him _ _ h)
  | own h => rw [V.tr]; exact ho _ _ _ (hI _ (by simp [ids])) h
  | osl0 h h1 h2 => rw [V.tr]; exact hs _ _ _ _ _ _ (hI _ (by simp [ids])) h (.osl0 h h1 h2)
  | osl h h1 h2 h3 h4 h5 h6 h7 => rw [V.tr]; exact hs _ _ _ _ _ _ (hI _ (by simp [ids])) h (.osl h h1 h2 h3 h4 h5 h6 h7)
  | adr h hg => rw [V.tr]; exact ha _ _ _ _ (hI _ (by simp [ids])) h hg
  | ead h hi hs hg => rw [V.tr]; exact he _ _ _ _ _ _ _ _ _ (hI _ (by simp [ids])) h hi hs hg
  | cad u h hi => rw [V.tr]; exact hc _ _ (.cad u h hi)
  | agg hl _ h1 ih =>
    rw [V.tr, trs_map]
    refine .agg (by simpa using hl) (fun i p v hp hv => ?_) h1
    rw [List.getElem?_map] at hp
    obtain ⟨q, hq, rfl⟩ := Option.map_eq_some_iff.1 hp
    exact ih i q v hq hv (fun b hb => hI b (by rw [ids]; exact mem_idss hq hb))
  | tup hl _ ih =>
    rw [V.tr, trs_map]
    refine .tup (by simpa using hl) (fun i p v hp hv => ?_)
    rw [List.getElem?_map] at hp
    obtain ⟨q, hq, rfl⟩ := Option.map_eq_some_iff.1 hp
    exact ih i q v hq hv (fun b hb => hI b (by rw [ids]; exact mem_idss hq hb))
  | fn hl _ ih =>
    rw [V.tr, trs_map]
    refine .fn (by simpa using hl) (fun i p v hp hv => ?_)
    rw [List.getElem?_map] at hp
    obtain ⟨q, hq, rfl⟩ := Option.map_eq_some_iff.1 hp
    exact ih i q v hq hv (fun b hb => hI b (by rw [ids]; exact mem_idss hq hb))
theorem Rep.cad_sub {cs : List PV} {v : Value} (h : Rep M w m ρ (.cad cs) v) (hO : ∀ k, Own m' ρ' k → Own m ρ k) (hN : ∀ k, Mine M' m' ρ' k → Mine M m ρ k) : Rep M' w m' ρ' (.cad cs) v :=
  h.cad_move (Mv.refl _ w) (fun k _ => hO k) (fun k _ => hN k)
theorem RowAt.im {v : Value} {es : List (List PV)} (h : RowAt M w m ρ v es) {Nn : Nat → Prop} (hN : es.length ≠ 0 → ∀ g, own1 v = some g → ¬ Nn g) (hs : ∀ k, Nn k → Mine M m ρ k) : Im w Nn (.sl es) v := by
  obtain ⟨A, cc, sz, rfl, hx, hc, hsz, _, hA⟩ := h
  by_cases h0 : es.length = 0
  · have : es = [] := List.eq_nil_of_length_eq_zero h0
    subst this
    exact .sl (sz := sz) (fun _ _ => undef) rfl hx hc hsz (.inl rfl) (fun i j e p he => by simp at he)
  · rcases hA with h | ⟨ad, rfl, hA⟩
    · exact absurd h h0
    have hg := hN h0 ad.block rfl
    have hu : ∀ (i j : Nat) (x : List PV) (p : PV), es[i]? = some x → x[j]? = some p → w.cell? (ad.add (i * sz + j)) = some ((w.cell? (ad.add (i * sz + j))).getD undef) ∧ ((w.cell? (ad.add (i * sz + j))).getD undef).oneCell' = true ∧ Im w Nn p ((w.cell? (ad.add (i * sz + j))).getD undef) := by
      intro i j x p hi hj
      obtain ⟨u, h1, h2, h3⟩ := hA i j x p hi hj
      rw [h1]
      exact ⟨rfl, h2, h3.sub hs⟩
    exact .sl (fun i j => (w.cell? (ad.add (i * sz + j))).getD undef) rfl hx hc hsz (.inr ⟨ad, rfl, fun i j x p hi hj => ⟨(hu i j x p hi hj).1, hg, (hu i j x p hi hj).2.1⟩⟩) (fun i j x p hi hj => (hu i j x p hi hj).2.2)
/-- One's own row, or a part of it, seen as what is only read. -/
theorem Rep.im_own (hb : ∀ b x, m[b]? = some x → BlkOk P M w m ρ (ρ b) x) {b : Nat} {e : TypeId} {es : List (List PV)} (hm : m[b]? = some (.row e es)) {Nn : Nat → Prop} (hN : ∀ k, own1 (ρ b) = some k → ¬ Nn k) (hs : ∀ k, Nn k → Mine M m ρ k) : Im w Nn (.sl es) (ρ b) :=
  (hb _ _ hm).rowAt.im (fun _ => hN) hs
theorem Rep.im_osl (hb : ∀ b x, m[b]? = some x → BlkOk P M w m ρ (ρ b) x) {b l hh : Nat} {e : TypeId} {es : List (List PV)} {v : Value} (hm : m[b]? = some (.row e es)) (h : Rep M w m ρ (.osl b l hh) v) {Nn : Nat → Prop} (hN : ∀ k, own1 (ρ b) = some k → ¬ Nn k) (hs : ∀ k, Nn k → Mine M m ρ k) : Im w Nn (.sl ((es.take hh).drop l)) v := by
  obtain ⟨es', e1, hra⟩ := row1_sound (K := fun x => x = (es.take hh).drop l) hb h (by simp only [row1, hm, onRowB])
  subst e1
  refine hra.im (fun hne g hg => ?_) hs
  cases h with
  | im hi => cases hi
  | osl0 hm' hl hr => exact hN g (by rw [hr, ← hg]; rename_i A _ _; cases A <;> rfl)
  | osl hm' h0 hl hhl hc hx hsz hr =>
    obtain ⟨hr1, hr, _⟩ := hr
    rcases hr1 with hr1 | rfl
    · exfalso; rw [List.length_drop, List.length_take] at hne; omega
    · exact hN g (by rw [hr, ← hg]; rfl)
theorem BlkOk.cad {g n cc i j sz : Nat} {e : TypeId} {es : List (List PV)} {x : List PV} (h : BlkOk P M w m ρ (.slice (some ⟨g, 0, none⟩) n cc) (.row e es)) (hi : es[i]? = some x) (hs : ∀ x ∈ es, x.length = sz) (hN : ¬ Own m' ρ' g) (hsub : ∀ k, Mine M' m' ρ' k → Mine M m ρ k) :
    Rep M' w m' ρ' (.cad (x.drop j)) (.pointer (some ⟨g, i * sz + j, none⟩)) := by
  cases h with
  | row hinf hz hzs h0 hby hlen ho hsz hf hx h1 =>
    rename_i xs inf z
    have e1 : inf.size = sz := by rw [← hsz x (List.mem_of_getElem? hi), hs x (List.mem_of_getElem? hi)]
    subst e1
    have hr : ∀ (j' : Nat) (p : PV), (x.drop j)[j']? = some p → ∃ u, xs[i * inf.size + j + j']? = some u ∧ Im w (Mine M m ρ) p u := by
      intro j' p hj
      rw [List.getElem?_drop] at hj
      rw [Nat.add_assoc]
      exact hx i _ x p hi hj
    refine .cad (fun j' => xs.getD (i * inf.size + j + j') undef) (fun j' p hj => ?_) (fun j' p hj => ?_)
    · obtain ⟨u, hu, _⟩ := hr j' p hj
      rw [List.getD_eq_getElem?_getD, hu]
      refine ⟨?_, hN, h1 u (List.mem_of_getElem? hu)⟩
      have := ho.cells (g := g) rfl _ u hu
      rw [add_none] at this ⊢
      simpa using this
    · obtain ⟨u, hu, him⟩ := hr j' p hj
      rw [List.getD_eq_getElem?_getD, hu]
      exact him.sub hsub
theorem pures_get : ∀ {l : List PV} {i : Nat} {p : PV}, pures l = true → l[i]? = some p → pure p = true
  | q :: l, 0, p, h, hp => by simp at hp; subst hp; simp [pures] at h; exact h.1
  | q :: l, i + 1, p, h, hp => by simp [pures] at h; simp at hp; exact pures_get h.2 hp
theorem Rep.pure {p : PV} {v : Value} (h : Rep M w m ρ p v) (hp : V.pure p = true) : Im w (Mine M m ρ) p v := by
  induction h with
  | im h => exact h
  | own h => simp [V.pure] at hp
  | osl0 h => simp [V.pure] at hp
  | osl h => simp [V.pure] at hp
  | adr h => simp [V.pure] at hp
  | ead h => simp [V.pure] at hp
  | cad u h hi => simp [V.pure] at hp
  | agg hl _ h1 ih => rw [V.pure] at hp; exact .agg hl (fun i p v hi hv => ih i p v hi hv (pures_get hp hi)) h1
  | tup hl _ ih => rw [V.pure] at hp; exact .tup hl (fun i p v hi hv => ih i p v hi hv (pures_get hp hi))
  | fn hl _ ih => rw [V.pure] at hp; exact .fn hl (fun i p v hi hv => ih i p v hi hv (pures_get hp hi))
theorem BlkOk.cad_var {g i : Nat} {cs : List PV} (h : BlkOk P M w m ρ (.pointer (some ⟨g, 0, none⟩)) (.var cs)) (hp : pures cs = true) (hN : ¬ Own m' ρ' g) (hsub : ∀ k, Mine M' m' ρ' k → Mine M m ρ k) : Rep M' w m' ρ' (.cad (cs.drop i)) (.pointer (some ⟨g, i, none⟩)) := by
  obtain ⟨g', e, hc⟩ := h.cells_var
  cases e
  have hu : ∀ (j : Nat) (p : PV), (cs.drop i)[j]? = some p → w.cell? ((⟨g, i, none⟩ : Addr).add j) = some ((w.cell? ((⟨g, i, none⟩ : Addr).add j)).getD undef) ∧ ((w.cell? ((⟨g, i, none⟩ : Addr).add j)).getD undef).oneCell' = true ∧ Im w (Mine M' m' ρ') p ((w.cell? ((⟨g, i, none⟩ : Addr).add j)).getD undef) := by
    intro j p hj
    rw [List.getElem?_drop] at hj
    obtain ⟨u, h1, h2, h3⟩ := hc _ p hj
    rw [add_none, Nat.zero_add] at h1
    rw [add_none, h1]
    exact ⟨rfl, h2, (h3.pure (pures_get hp hj)).sub hsub⟩
  exact .cad (fun j => (w.cell? ((⟨g, i, none⟩ : Addr).add j)).getD undef) (fun j p hj => ⟨(hu j p hj).1, hN, (hu j p hj).2.1⟩) (fun j p hj => (hu j p hj).2.2)
theorem frzM_get (bs : List Nat) (m : Mem) : ∀ (l : Mem) (c i : Nat), (frzM bs m c l)[i]? = (l[i]?).map fun
    | .var cs => .var (cs.map (frz1 bs m))
    | .row e es => if bs.contains (c + i) = true then .dead else .row e es
    | .dead => .dead
  | [], c, i => by simp [frzM]
  | .var cs :: l, c, 0 => by simp [frzM]
  | .row e es :: l, c, 0 => by simp [frzM]
  | .dead :: l, c, 0 => by simp [frzM]
  | .var cs :: l, c, i + 1 => by simp only [frzM, List.getElem?_cons_succ, frzM_get bs m l, Nat.add_assoc, Nat.add_comm 1 i]
  | .row e es :: l, c, i + 1 => by simp only [frzM, List.getElem?_cons_succ, frzM_get bs m l, Nat.add_assoc, Nat.add_comm 1 i]
  | .dead :: l, c, i + 1 => by simp only [frzM, List.getElem?_cons_succ, frzM_get bs m l, Nat.add_assoc, Nat.add_comm 1 i]
theorem frzM_row {bs : List Nat} {b : Nat} {e : TypeId} {es : List (List PV)} (h : m[b]? = some (.row e es)) (hn : ¬ bs.contains b = true) : (frzM bs m 0 m)[b]? = some (.row e es) := by
  rw [frzM_get, h, Option.map_some]; simp only [Nat.zero_add, if_neg hn]
theorem frzM_var {bs : List Nat} {b : Nat} {cs : List PV} (h : m[b]? = some (.var cs)) : (frzM bs m 0 m)[b]? = some (.var (cs.map (frz1 bs m))) := by
  rw [frzM_get, h, Option.map_some]
theorem frzM_live {bs : List Nat} {b : Nat} (h : Live (frzM bs m 0 m) b) : Live m b ∧ ((∃ e es, m[b]? = some (.row e es)) → ¬ bs.contains b = true) := by
  obtain ⟨x, hx, hd⟩ := h
  rw [frzM_get, Nat.zero_add] at hx
  obtain ⟨y, hy, rfl⟩ := Option.map_eq_some_iff.1 hx
  cases y with
  | dead => exact absurd rfl hd
  | var cs => exact ⟨live_var hy, fun ⟨e, es, h⟩ => by rw [hy] at h; cases h⟩
  | row e es =>
    refine ⟨live_row hy, fun _ hc => ?_⟩
    simp only [if_pos hc] at hd
    exact hd rfl
theorem own_frz {bs : List Nat} {k : Nat} (h : Own (frzM bs m 0 m) ρ k) : Own m ρ k := by
  obtain ⟨b, hb, hk⟩ := h
  exact ⟨b, (frzM_live hb).1, hk⟩
theorem mine_frz {bs : List Nat} {k : Nat} (h : Mine M (frzM bs m 0 m) ρ k) : Mine M m ρ k := h.imp id own_frz
theorem Inv.frz_own (h : Inv c tm m ρ a w) {bs : List Nat} {b k : Nat} {e : TypeId} {es : List (List PV)} (hm : m[b]? = some (.row e es)) (hb : bs.contains b = true) (hk : own1 (ρ b) = some k) : ¬ Own (frzM bs m 0 m) ρ k := by
  rintro ⟨c, hc, hk2⟩
  obtain ⟨h1, h2⟩ := frzM_live hc
  obtain rfl := h.sep c b k h1 (live_row hm) hk2 hk
  exact h2 ⟨_, _, hm⟩ hb
theorem Inv.frz_out (h : Inv c tm m ρ a w) {bs : List Nat} {b k : Nat} {e : TypeId} {es : List (List PV)} (hm : m[b]? = some (.row e es)) (hb : bs.contains b = true) (hk : own1 (ρ b) = some k) : ¬ Mine c.M (frzM bs m 0 m) ρ k := by
  rintro (hM | ho)
  · exact h.out (live_row hm) hk hM
  · exact h.frz_own hm hb hk ho
theorem Inv.frz1 (h : Inv c tm m ρ a w) (bs : List Nat) {p : PV} {v : Value} (hp : Rep c.M w m ρ p v) : Rep c.M w (frzM bs m 0 m) ρ (V.frz1 bs m p) v := by
  unfold V.frz1
  refine hp.tr _ _ _ _ _ (fun _ => True) (fun _ _ => trivial) (fun p v hi => hi.sub (fun k hk => mine_frz hk)) (fun b e es _ hm => ?_) (fun b l hh v e es _ hm hr => ?_) (fun b i g cs _ hm hg => .adr (frzM_var hm) hg) (fun b i j g n cc sz e es _ hm hi hs hg => ?_) (fun cs v hc => hc.cad_sub (fun k hk => own_frz hk) (fun k hk => mine_frz hk))
  · by_cases hb : bs.contains b = true
    · rw [if_pos hb, seen, tr]
      simp only [hm]
      exact .im (Rep.im_own h.blk hm (fun k hk => h.frz_out hm hb hk) (fun k hk => mine_frz hk))
    · rw [if_neg hb]
      exact .own (frzM_row hm hb)
  · by_cases hb : bs.contains b = true
    · rw [if_pos hb, seen, tr]
      simp only [hm]
      exact .im (Rep.im_osl h.blk hm hr (fun k hk => h.frz_out hm hb hk) (fun k hk => mine_frz hk))
    · rw [if_neg hb]
      cases hr with
      | im hi => cases hi
      | osl0 h1 h2 h3 => exact .osl0 (frzM_row h1 hb) h2 h3
      | osl h1 h2 h3 h4 h5 h6 h7 h8 => exact .osl (frzM_row h1 hb) h2 h3 h4 h5 h6 h7 h8
  · by_cases hb : bs.contains b = true
    · rw [if_pos hb, seen, tr]
      have hx : es[i]? = some es[i] := List.getElem?_eq_getElem hi
      simp only [hm, hx]
      have hok := h.blk b _ hm
      rw [hg] at hok
      exact hok.cad hx hs (h.frz_own hm hb (by rw [hg]; rfl)) (fun k hk => mine_frz hk)
    · rw [if_neg hb]
      exact .ead (frzM_row hm hb) hi hs hg
theorem get_frzT (bs : List Nat) (m : Mem) : ∀ (tm : Tm) (t : Nat), get (frzT bs m tm) t = V.frz1 bs m (get tm t)
  | [], t => by simp [frzT, get, V.frz1, tr]
  | (k, p) :: l, t => by simp only [frzT, get, get_frzT bs m l t]; split <;> rfl
theorem frzM_length (bs : List Nat) (m : Mem) : ∀ (l : Mem) (c : Nat), (frzM bs m c l).length = l.length
  | [], c => by simp [frzM]
  | .var cs :: l, c => by simp [frzM, frzM_length bs m l]
  | .row e es :: l, c => by simp [frzM, frzM_length bs m l]
  | .dead :: l, c => by simp [frzM, frzM_length bs m l]
theorem Inv.frz (h : Inv c tm m ρ a w) (bs : List Nat) : Inv c (frzT bs m tm) (frzM bs m 0 m) ρ a w := by
  refine ⟨h.sz, h.df, fun t => by rw [get_frzT]; exact h.frz1 bs (h.tm t), fun b x hx => ?_, fun b c k hb hc => h.sep b c k (frzM_live hb).1 (frzM_live hc).1, fun b k hb => h.new b k (frzM_live hb).1, h.fr, h.old, h.dis, ?_⟩
  · rw [frzM_get, Nat.zero_add] at hx
    obtain ⟨y, hy, rfl⟩ := Option.map_eq_some_iff.1 hx
    have hok := h.blk b y hy
    cases y with
    | dead => exact .dead
    | var cs =>
      generalize ρ b = v at hok ⊢
      cases hok with
      | var hg hl hj h1 =>
        refine .var hg (by simpa using hl) (fun j p v hp hv => ?_) h1
        rw [List.getElem?_map] at hp
        obtain ⟨q, hq, rfl⟩ := Option.map_eq_some_iff.1 hp
        exact h.frz1 bs (hj j q v hq hv)
    | row e es =>
      generalize ρ b = v at hok ⊢
      by_cases hb : bs.contains b = true
      · simp only [if_pos hb]; exact .dead
      · simp only [if_neg hb]
        cases hok with
        | row hinf hz hzs h0 hby hlen ho hsz hf hx h1 => exact .row hinf hz hzs h0 hby hlen ho hsz hf (fun q j x p hq hj => let ⟨u, h2, h3⟩ := hx q j x p hq hj; ⟨u, h2, h3.sub (fun k hk => mine_frz hk)⟩) h1
  · refine ⟨by rw [frzM_length]; exact h.ft.len, fun b cs hb hm => ?_, fun b e es hb hm => ?_, fun b hb hm => ?_⟩
    · obtain ⟨h1, cs', h2⟩ := h.ft.var b cs hb hm
      exact ⟨h1, _, frzM_var h2⟩
    · rcases h.ft.row b e es hb hm with h1 | ⟨h1, e', es', h2⟩
      · left; rw [frzM_get, h1]; rfl
      · by_cases hc : bs.contains b = true
        · left; rw [frzM_get, h2, Option.map_some]; simp only [Nat.zero_add, if_pos hc]
        · exact .inr ⟨h1, e', es', frzM_row h2 hc⟩
    · rw [frzM_get, h.ft.dead b hb hm]; rfl
section
variable (o : Nat → PV) (s : Nat → Nat → Nat → PV) (ad : Nat → Nat → PV) (ea : Nat → Nat → Nat → PV) (cd : List PV → PV) (ho : ∀ b, V.pure (o b) = true) (hs : ∀ b l h, V.pure (s b l h) = true) (ha : ∀ b i, V.pure (ad b i) = true) (he : ∀ b i j, V.pure (ea b i j) = true) (hc : ∀ cs, V.pure (cd cs) = true)
include ho hs ha he hc
mutual
theorem pure_tr : ∀ p : PV, V.pure (V.tr o s ad ea cd p) = true
  | .own b => by rw [V.tr]; exact ho b
  | .osl b l h => by rw [V.tr]; exact hs b l h
  | .adr b i => by rw [V.tr]; exact ha b i
  | .ead b i j => by rw [V.tr]; exact he b i j
  | .cad cs => by rw [V.tr]; exact hc cs
  | .agg cs => by rw [V.tr, V.pure]; exact pures_trs cs
  | .tup cs => by rw [V.tr, V.pure]; exact pures_trs cs
  | .fn f cs => by rw [V.tr, V.pure]; exact pures_trs cs
  | .val x => by rw [V.tr]; rfl
  | .any => by rw [V.tr]; rfl
  | .sl es => by rw [V.tr]; rfl
theorem pures_trs : ∀ l : List PV, V.pures (V.trs o s ad ea cd l) = true
  | [] => by rw [V.trs]; rfl
  | p :: l => by rw [V.trs, V.pures, pure_tr p, pures_trs l]; rfl
end
end
theorem pure_seen0 (m : Mem) (p : PV) : V.pure (seen0 m p) = true := by
  unfold seen0
  refine pure_tr _ _ _ _ _ (fun b => ?_) (fun b l h => ?_) (fun _ _ => rfl) (fun _ _ _ => rfl) (fun _ => rfl) p
  · split <;> rfl
  · split <;> rfl
theorem BlkOk.cad_deep {g i : Nat} {cs : List PV} (h : BlkOk P M w m ρ (.pointer (some ⟨g, 0, none⟩)) (.var cs)) (hN : ¬ Own m' ρ' g) (hi : ∀ (j : Nat) (p : PV) (v : Value), cs[j]? = some p → Rep M w m ρ p v → Im w (Mine M' m' ρ') (seen0 m p) v) : Rep M' w m' ρ' (.cad ((cs.map (seen0 m)).drop i)) (.pointer (some ⟨g, i, none⟩)) := by
  obtain ⟨g', e, hc⟩ := h.cells_var
  cases e
  have hu : ∀ (j : Nat) (p : PV), ((cs.map (seen0 m)).drop i)[j]? = some p → w.cell? ((⟨g, i, none⟩ : Addr).add j) = some ((w.cell? ((⟨g, i, none⟩ : Addr).add j)).getD undef) ∧ ((w.cell? ((⟨g, i, none⟩ : Addr).add j)).getD undef).oneCell' = true ∧ Im w (Mine M' m' ρ') p ((w.cell? ((⟨g, i, none⟩ : Addr).add j)).getD undef) := by
    intro j p hj
    rw [List.getElem?_drop, List.getElem?_map] at hj
    obtain ⟨q, hq, rfl⟩ := Option.map_eq_some_iff.1 hj
    obtain ⟨u, h1, h2, h3⟩ := hc _ q hq
    rw [add_none, Nat.zero_add] at h1
    rw [add_none, h1]
    exact ⟨rfl, h2, hi _ q u hq h3⟩
  exact .cad (fun j => (w.cell? ((⟨g, i, none⟩ : Addr).add j)).getD undef) (fun j p hj => ⟨(hu j p hj).1, hN, (hu j p hj).2.1⟩) (fun j p hj => (hu j p hj).2.2)
/-- What is handed to a call. -/
theorem Inv.seen (h : Inv c tm m ρ a w) {bs : List Nat} {p : PV} {v : Value} (hp : Rep c.M w m ρ p v) (hb : ∀ b ∈ ids p, b ∈ bs ∧ ∀ cs, m[b]? = some (.var cs) → ∀ b' ∈ idss cs, b' ∈ bs) : Rep (Mine c.M (frzM bs m 0 m) ρ) w [] ρ' (V.seen m p) v := by
  have hno : ∀ k, ¬ Own ([] : Mem) ρ' k := by
    rintro k ⟨b, ⟨x, hx, _⟩, _⟩
    simp at hx
  have hsub : ∀ k, Mine (Mine c.M (frzM bs m 0 m) ρ) [] ρ' k → Mine c.M (frzM bs m 0 m) ρ k := by
    rintro k (hk | hk)
    · exact hk
    · exact absurd hk (hno k)
  unfold V.seen
  refine hp.tr _ _ _ _ _ (fun b => b ∈ bs ∧ ∀ cs, m[b]? = some (.var cs) → ∀ b' ∈ idss cs, b' ∈ bs) hb (fun p v hi => hi.sub (fun k hk => mine_frz (hsub k hk))) (fun b e es hI hm => ?_) (fun b l hh v e es hI hm hr => ?_) (fun b i g cs hI hm hg => ?_) (fun b i j g n cc sz e es hI hm hi hs hg => ?_) (fun cs v hc => hc.cad_sub (fun k hk => absurd hk (hno k)) (fun k hk => mine_frz (hsub k hk)))
  · simp only [hm]
    exact .im (Rep.im_own h.blk hm (fun k hk hn => h.frz_out hm (List.contains_iff_mem.2 hI.1) hk (hsub k hn)) (fun k hk => mine_frz (hsub k hk)))
  · simp only [hm]
    exact .im (Rep.im_osl h.blk hm hr (fun k hk hn => h.frz_out hm (List.contains_iff_mem.2 hI.1) hk (hsub k hn)) (fun k hk => mine_frz (hsub k hk)))
  · simp only [hm]
    have hok := h.blk b _ hm
    rw [hg] at hok
    refine hok.cad_deep (hno g) (fun j q v hq hv => ?_)
    have hr : Rep (Mine c.M (frzM bs m 0 m) ρ) w [] ρ' (seen0 m q) v := by
      unfold seen0
      refine hv.tr _ _ _ _ _ (fun b => b ∈ bs) (fun b hb => hI.2 _ hm b (mem_idss hq hb)) (fun p v hi => hi.sub (fun k hk => mine_frz (hsub k hk))) (fun b e es hI hm => ?_) (fun b l hh v e es hI hm hr => ?_) (fun b i g cs hI hm hg => .im .any) (fun b i j g n cc sz e es hI hm hi hs hg => .im .any) (fun cs v hc => .im .any)
      · simp only [hm]
        exact .im (Rep.im_own h.blk hm (fun k hk hn => h.frz_out hm (List.contains_iff_mem.2 hI) hk (hsub k hn)) (fun k hk => mine_frz (hsub k hk)))
      · simp only [hm]
        exact .im (Rep.im_osl h.blk hm hr (fun k hk hn => h.frz_out hm (List.contains_iff_mem.2 hI) hk (hsub k hn)) (fun k hk => mine_frz (hsub k hk)))
    exact hr.pure (pure_seen0 m q)
  · have hx : es[i]? = some es[i] := List.getElem?_eq_getElem hi
    simp only [hm, hx]
    have hok := h.blk b _ hm
    rw [hg] at hok
    exact hok.cad hx hs (hno g) (fun k hk => mine_frz (hsub k hk))
end
end Go.V
set_option linter.unusedVariables false
set_option linter.unusedSimpArgs false
namespace Go.V
open Go
section
variable {c : Cx} {P : Program} {M M' : Nat → Prop} {w0 w w' : World} {S : Nat → Prop} {N : Nat} {tm : Tm} {m m' : Mem} {ρ ρ' : Nat → Value} {a : Act}
/-- A value, cell by cell. -/
def CellsOf (M : Nat → Prop) (w : World) (m : Mem) (ρ : Nat → Value) (v : Value) (cs : List PV) : Prop := cs.length = v.cells.size ∧ (∀ (j : Nat) (p : PV) (u : Value), cs[j]? = some p → v.cells[j]? = some u → Rep M w m ρ p u) ∧ ∀ u ∈ v.cells, u.oneCell' = true
theorem CellsOf.one {v : Value} {p : PV} (h : Rep M w m ρ p v) (h1 : v.oneCell' = true) : CellsOf M w m ρ v [p] := by
  have e : v.cells = #[v] := by cases v <;> first | rfl | simp [Value.oneCell'] at h1
  refine ⟨by simp [e], fun j q u hq hu => ?_, fun u hu => by rw [e] at hu; simp at hu; rw [hu]; exact h1⟩
  rw [e] at hu
  cases j with
  | zero => simp at hq hu; rw [← hq, ← hu]; exact h
  | succ j => simp at hq
theorem cells_sound (hb : ∀ b x, m[b]? = some x → BlkOk P M w m ρ (ρ b) x) {p : PV} {v : Value} {K : List PV → Prop} (hp : Rep M w m ρ p v) (h : cells p K) : ∃ cs, K cs ∧ CellsOf M w m ρ v cs := by
  unfold cells at h
  split at h
  · rename_i cs
    refine ⟨cs, h, ?_⟩
    cases hp with
    | im hi => cases hi with
      | agg hl h1 h2 => exact ⟨hl, fun j p u hp hu => .im (h1 j p u hp hu), h2⟩
    | agg hl h1 h2 => exact ⟨hl, h1, h2⟩
  · obtain ⟨h1, h⟩ := h
    have := hp.val_eq; subst this
    exact ⟨_, h, .one hp h1⟩
  · cases h
  · cases h
  · rename_i h1 h2 h3 h4
    refine ⟨_, h, .one hp ?_⟩
    cases hp with
    | im hi => cases hi with
      | val => exact (h2 _ rfl).elim
      | any => exact (h3 rfl).elim
      | agg => exact (h1 _ rfl).elim
      | tup => exact (h4 _ rfl).elim
      | sl => rfl
      | fn => rfl
    | own hm => obtain ⟨A, c, sz, hv, _⟩ := (hb _ _ hm).rowAt; rw [hv]; rfl
    | osl0 => rfl
    | osl => rfl
    | adr => rfl
    | ead => rfl
    | cad => rfl
    | agg => exact (h1 _ rfl).elim
    | tup => exact (h4 _ rfl).elim
    | fn => rfl
variable {np : Nat} {lent : FuncId → Bool} {kp : Value → Tm → Mem → Prop} {d : Option Tmp} {ty : TypeId} {pos : String} {af : Array Edge} {g : Option (Nat × Bool)} {k : Tm → Mem → Prop} {Q : Exit → Act → World → Prop}
theorem heap_old (w : World) (o : Obj) : ∀ k, k < w.heap.size → (w.alloc o).heap[k]? = w.heap[k]? := fun k hk => heap_alloc_old w o k hk
theorem s_box (h : Inv c tm m ρ a w) (hd : ∀ t, d = some t → t < c.N) {t : TypeId} {x : Operand} (hs : step c.P np lent kp tm m d ty k (.box t x)) : Oper.wp c.P ⟨d, .box t x, ty, pos, af, g⟩ a w (Then c k) Q := by
  simp only [step] at hs
  obtain ⟨cs, hk, hl, hc, h1⟩ := cells_sound h.blk (h.ev x) hs
  refine wp_value (v := .pointer (some ⟨w.heap.size, 0, none⟩)) (w' := w.alloc (.cells (a.eval x).cells t)) (by simp [execOp, Instr.box, newVar, newRow]) ?_
  have hu : ∀ k, own1 (.pointer (some ⟨w.heap.size, 0, none⟩)) = some k → w.heap.size ≤ k := by intro k hk; simp [own1] at hk; omega
  refine ⟨_, _, _, hk, h.lay hd (by simp) (heap_old w _) rfl rfl rfl hu (.var (heap_alloc_new w _) hl (fun j p u hp hu' => (hc j p u hp hu').lay (Mv.alloc _ w _) hu) h1) (.adr (cs := cs) (by rw [lay_get, if_pos rfl]) (if_pos rfl))⟩
theorem zeroOf_eq {t : TypeId} {zs : List Value} (h : zeroOf P t = some zs) : ∃ i z, P.info? t = some i ∧ i.zero = some z ∧ z.cells.toList = zs ∧ ∀ u ∈ z.cells, okC u = true := by
  unfold zeroOf at h
  split at h
  · rename_i z hz
    split at h
    · rename_i h1
      cases h
      cases hi : P.info? t with
      | none => rw [hi] at hz; cases hz
      | some i => rw [hi] at hz; exact ⟨i, z, rfl, hz, rfl, fun u hu => List.all_eq_true.1 h1 u (Array.mem_toList_iff.2 hu)⟩
    · cases h
  · cases h
theorem s_alloc (h : Inv c tm m ρ a w) (hd : ∀ t, d = some t → t < c.N) {t : TypeId} (hs : step c.P np lent kp tm m d ty k (.alloc t)) : Oper.wp c.P ⟨d, .alloc t, ty, pos, af, g⟩ a w (Then c k) Q := by
  simp only [step] at hs
  obtain ⟨zs, hz, hs⟩ := onS_e hs
  · obtain ⟨i, z, hi, hzero, rfl, h1⟩ := zeroOf_eq hz
    refine wp_value (v := .pointer (some ⟨w.heap.size, 0, none⟩)) (w' := w.alloc (.cells z.cells t)) (by simp [execOp, Instr.alloc, zeroValue, typeInfo, hi, hzero, newVar, newRow]) ?_
    have hu : ∀ k, own1 (.pointer (some ⟨w.heap.size, 0, none⟩)) = some k → w.heap.size ≤ k := by intro k hk; simp [own1] at hk; omega
    refine ⟨_, _, _, hs, h.lay hd (by simp) (heap_old w _) rfl rfl rfl hu (.var (heap_alloc_new w _) (by simp) (fun j p u hp hu' => ?_) (fun u hu => okC_one (h1 u hu))) (.adr (cs := z.cells.toList.map .val) (by rw [lay_get, if_pos rfl]) (if_pos rfl))⟩
    rw [List.getElem?_map, Array.getElem?_toList, hu'] at hp
    cases hp
    exact .im (.val (okC_ok (h1 u (Array.mem_of_getElem? hu'))))
theorem s_nilCheck (h : Inv c tm m ρ a w) (hd : ∀ t, d = some t → t < c.N) {x : Operand} (hs : step c.P np lent kp tm m d ty k (.nilCheck x)) : Quiet c.P ⟨d, .nilCheck x, ty, pos, af, g⟩ a w (Then c k) := by
  simp only [step] at hs
  unfold onPtr at hs
  have hx := h.ev x
  have go : ∀ vx, a.eval x = vx → (∃ A : Addr, vx = .pointer (some A)) → (execOp a.eval ⟨d, .nilCheck x, ty, pos, af, g⟩).run c.P w = .ok (.value vx) w := by
    rintro vx hq ⟨A, rfl⟩
    simp [execOp, hq]
  generalize hq : a.eval x = vx at hx
  split at hs
  · rename_i b i he
    rw [he] at hx
    exact q_value (go vx hq (by cases hx with | im hi => cases hi | adr => exact ⟨_, rfl⟩)) (h.then hd hx hs)
  · rename_i b i j he
    rw [he] at hx
    exact q_value (go vx hq (by cases hx with | im hi => cases hi | ead => exact ⟨_, rfl⟩)) (h.then hd hx hs)
  · rename_i cs he
    rw [he] at hx
    exact q_value (go vx hq (by cases hx with | im hi => cases hi | cad => exact ⟨_, rfl⟩)) (h.then hd hx hs)
  · cases hs
theorem rowSize_eq {e : TypeId} {z : Nat} (h : rowSize P e = some z) : ∃ i zv, P.info? e = some i ∧ i.zero = some zv ∧ zv.cells.size = i.size ∧ 0 < i.size ∧ i.size ≤ 10000 ∧ i.bytes ≤ 100000 ∧ i.size = z := by
  unfold rowSize at h
  split at h
  · rename_i i hi
    split at h
    · rename_i zv hz
      split at h
      · rename_i hc; cases h; exact ⟨i, zv, hi, hz, hc.1, hc.2.1, hc.2.2.1, hc.2.2.2, rfl⟩
      · cases h
    · cases h
  · cases h
theorem Fit.len {e : TypeId} {es : List (List PV)} {i : TypeInfo} (h : Fit P e es) (hi : rowSize P e = some i.size) : ∀ x ∈ es, x.length = i.size := fun x hx => by
  have := (h x hx).1; rw [hi] at this; exact (Option.some.inj this).symm
theorem Fit.flat {e : TypeId} {es : List (List PV)} (h : Fit P e es) : flatT P e = true → ∀ x ∈ es, ∀ p ∈ x, flatP p = true := fun hf x hx => (h x hx).2.2 hf
theorem s_assign (h : Inv c tm m ρ a w) (hd : ∀ t, d = some t → t < c.N) {x : Operand} (hs : step c.P np lent kp tm m d ty k (.assign x)) : Quiet c.P ⟨d, .assign x, ty, pos, af, g⟩ a w (Then c k) := by
  refine q_value (v := a.eval x) rfl ?_
  unfold step at hs
  split at hs
  any_goals (rename_i heq; cases heq; done)
  · rename_i heq
    cases heq
    obtain ⟨e, he, hs⟩ := onS_e hs
    · obtain ⟨z, hz, hs⟩ := onS_e hs
      · obtain ⟨i, zv, hi, hzv, hzs, h0, _, hby, rfl⟩ := rowSize_eq hz
        exact ⟨_, _, _, hs, h.lay hd (Nat.le_refl _) (fun _ _ => rfl) rfl rfl rfl (fun k hk => by simp [Act.eval, own1] at hk) (.row (xs := []) hi hzv hzs h0 hby (by simp) ⟨by simp, .inl ⟨rfl, rfl⟩⟩ (by simp) (fun _ e he => by cases he) (fun q j x p hq => by simp at hq) (by simp)) .laid⟩
  · rename_i heq
    cases heq
    exact h.then hd (h.ev _) hs
  · cases hs
theorem partCells_sound (hb : ∀ b x, m[b]? = some x → BlkOk P M w m ρ (ρ b) x) : ∀ (ps : List PV) (vs : List Value) (K : List (List PV) → Prop), ps.length = vs.length → (∀ (i : Nat) (p : PV) (v : Value), ps[i]? = some p → vs[i]? = some v → Rep M w m ρ p v) → partCells ps K →
    ∃ es, K es ∧ es.length = vs.length ∧ ∀ (q : Nat) (x : List PV) (v : Value), es[q]? = some x → vs[q]? = some v → CellsOf M w m ρ v x
  | [], [], K, _, _, h => ⟨[], h, rfl, fun q x v hx => by simp at hx⟩
  | p :: ps, v :: vs, K, hl, hr, h => by
    rw [partCells] at h
    obtain ⟨c, h, hc⟩ := cells_sound hb (hr 0 p v rfl rfl) h
    obtain ⟨es, h, hl2, he⟩ := partCells_sound hb ps vs _ (by simpa using hl) (fun i p v hp hv => hr (i + 1) p v (by simpa using hp) (by simpa using hv)) h
    refine ⟨_, h, by simp [hl2], fun q x u hx hu => ?_⟩
    cases q with
    | zero => simp at hx hu; subst hx; subst hu; exact hc
    | succ q => simp at hx hu; exact he q x u hx hu
  | [], v :: vs, K, hl, _, h => by simp at hl
  | p :: ps, [], K, hl, _, h => by simp at hl
theorem CellsOf.get {v : Value} {cs : List PV} (h : CellsOf M w m ρ v cs) {j : Nat} {p : PV} (hj : cs[j]? = some p) : ∃ u, v.cells[j]? = some u ∧ Rep M w m ρ p u ∧ u.oneCell' = true := by
  have hlt := lt_of_get hj
  have hlt2 : j < v.cells.size := by rw [← h.1]; exact hlt
  exact ⟨v.cells[j], Array.getElem?_eq_getElem hlt2, h.2.1 j p _ hj (Array.getElem?_eq_getElem hlt2), h.2.2 _ (Array.getElem_mem hlt2)⟩
theorem zip_parts (ev : Operand → Value) : ∀ (l : List (Nat × Operand)) (i : Nat), seqFrom i l = true → l.map (fun x => (x.1, ev x.2)) = ((l.map fun x => ev x.2).zipIdx i).map fun x => (x.2, x.1)
  | [], i, _ => by simp
  | (j, x) :: l, i, h => by
    simp only [seqFrom, Bool.and_eq_true, beq_iff_eq] at h
    simp only [List.map_cons, List.zipIdx_cons, h.1, zip_parts ev l (i + 1) h.2]
theorem build_run {t e : TypeId} {i : TypeInfo} {zv : Value} (hu : P.underlying t = some (.slice e)) (hi : P.info? e = some i) (hz : i.zero = some zv) (h0 : 0 < i.size) (hzs : zv.cells.size = i.size) {l : List (Nat × Value)} {vs : List Value} (hl : l = (vs.zipIdx 0).map fun x => (x.2, x.1)) (hv : ∀ v ∈ vs, v.cells.size = i.size) (hn : vs.length * i.size ≤ 2 ^ 24) (w : World) :
    (Instr.buildSlice t vs.length l.toArray).run P w = .ok (.slice (some ⟨w.heap.size, 0, none⟩) vs.length vs.length) (w.alloc (.cells (vs.flatMap fun v => v.cells.toList).toArray e)) := by
  by_cases hv0 : vs = []
  · subst hv0
    subst hl
    simp [Instr.buildSlice, run_underlying hu, sizeOf, typeInfo, hi, Instr.fill, newRow]
    congr 2
    apply Array.ext'
    rw [Array.toList_map, Array.toList_range]
    rfl
  · have : 0 < vs.length := List.length_pos_iff.2 hv0
    have hp : 0 < vs.length * i.size := Nat.mul_pos this h0
    refine run_buildSlice w t e vs.length _ _ i zv hu hi hz (by omega) (by omega) ?_
    subst hl
    exact Great.fill_whole h0 vs _ hv (by simp)
theorem s_buildSlice (h : Inv c tm m ρ a w) (hd : ∀ t, d = some t → t < c.N) {t : TypeId} {n : Nat} {parts : Array (Nat × Operand)} (hs : step c.P np lent kp tm m d ty k (.buildSlice t n parts)) : Oper.wp c.P ⟨d, .buildSlice t n parts, ty, pos, af, g⟩ a w (Then c k) Q := by
  simp only [step] at hs
  obtain ⟨e, he, hs⟩ := onS_e hs
  · obtain ⟨z, hz, hs⟩ := onS_e hs
    · obtain ⟨⟨hn, hn1000, hseq⟩, hs⟩ := hs
      · obtain ⟨i, zv, hi, hzv, hzs, h0, hz4, hby, rfl⟩ := rowSize_eq hz
        generalize hps : parts.toList.map (fun x => ev tm x.2) = ps at hs
        have h' := h.frz (idss ps)
        have hrep : ∀ (q : Nat) (p : PV) (v : Value), (ps.map (frz1 (idss ps) m))[q]? = some p → (parts.toList.map fun x => a.eval x.2)[q]? = some v → Rep c.M w (frzM (idss ps) m 0 m) ρ p v := by
          intro q p v hp hv
          subst hps
          rw [List.map_map, List.getElem?_map] at hp
          rw [List.getElem?_map] at hv
          obtain ⟨x, hx, rfl⟩ := Option.map_eq_some_iff.1 hp
          rw [hx] at hv
          cases hv
          exact h.frz1 _ (h.ev x.2)
        obtain ⟨es, ⟨hfit, hs⟩, hel, hes⟩ := partCells_sound h'.blk (ps.map (frz1 (idss ps) m)) (parts.toList.map fun x => a.eval x.2) _ (by subst hps; simp) hrep hs
        have hsz := hfit.len hz
        generalize hvs : (parts.toList.map fun x => a.eval x.2) = vs at hel hes
        have hvn : vs.length = n := by subst hvs; simp [hn]
        have hsv : ∀ v ∈ vs, v.cells.size = i.size := by
          intro v hv
          obtain ⟨q, hq⟩ := List.getElem?_of_mem hv
          have hlt := lt_of_get hq
          have hx : es[q]? = some (es[q]'(by omega)) := List.getElem?_eq_getElem (by omega)
          rw [← (hes q _ v hx hq).1]
          exact hsz _ (List.mem_of_getElem? hx)
        have hlen : (vs.flatMap fun v => v.cells.toList).length = vs.length * i.size := by
          clear hes hvn hel hvs
          induction vs with
          | nil => simp
          | cons v vs ih =>
            rw [List.flatMap_cons, List.length_append, ih (fun u hu => hsv u (List.mem_cons_of_mem _ hu)), Array.length_toList, hsv v List.mem_cons_self, List.length_cons, Nat.add_mul, Nat.one_mul, Nat.add_comm]
        have hcell : ∀ (q j : Nat) (x : List PV) (p : PV), es[q]? = some x → x[j]? = some p → ∃ u, (vs.flatMap fun v => v.cells.toList)[q * i.size + j]? = some u ∧ Im w (Mine c.M (frzM (idss ps) m 0 m) ρ) p u ∧ u.oneCell' = true := by
          intro q j x p hq hj
          have hlt := lt_of_get hq
          have hv : vs[q]? = some (vs[q]'(by omega)) := List.getElem?_eq_getElem (by omega)
          have hco := hes q x _ hq hv
          have hxl := hsz x (List.mem_of_getElem? hq)
          have hpu := (hfit x (List.mem_of_getElem? hq)).2.1
          have hjlt : j < i.size := by rw [← hxl]; exact lt_of_get hj
          obtain ⟨u, hu, hr, h1⟩ := hco.get hj
          refine ⟨u, ?_, hr.pure (pures_get hpu hj), h1⟩
          rw [Great.flat_get h0 vs hsv, show (q * i.size + j) / i.size = q by rw [Nat.mul_comm, Nat.mul_add_div h0, Nat.div_eq_of_lt hjlt, Nat.add_zero], show (q * i.size + j) % i.size = j by rw [Nat.mul_comm, Nat.mul_add_mod, Nat.mod_eq_of_lt hjlt], hv]
          exact hu
        have hone : ∀ u ∈ (vs.flatMap fun v => v.cells.toList), u.oneCell' = true := by
          intro u hu
          obtain ⟨v, hv, hu⟩ := List.mem_flatMap.1 hu
          obtain ⟨q, hq⟩ := List.getElem?_of_mem hv
          have hlt := lt_of_get hq
          have hx : es[q]? = some (es[q]'(by omega)) := List.getElem?_eq_getElem (by omega)
          exact (hes q _ v hx hq).2.2 u (Array.mem_toList_iff.1 hu)
        have hmul : vs.length * i.size ≤ 1000 * 10000 := Nat.mul_le_mul (by omega) hz4
        have hrun := build_run (P := c.P) (elemOf_eq he) hi hzv h0 hzs (l := parts.toList.map fun x => (x.1, a.eval x.2)) (vs := vs) (by subst hvs; exact zip_parts a.eval parts.toList 0 hseq) hsv (by omega) w
        have hu : ∀ k, own1 (.slice (some ⟨w.heap.size, 0, none⟩) vs.length vs.length) = some k → w.heap.size ≤ k := by intro k hk; simp [own1] at hk; omega
        refine wp_value (v := .slice (some ⟨w.heap.size, 0, none⟩) vs.length vs.length) (w' := w.alloc (.cells (vs.flatMap fun v => v.cells.toList).toArray e)) ?_ ?_
        · have e1 : (parts.map fun x => (x.1, a.eval x.2)) = (parts.toList.map fun x => (x.1, a.eval x.2)).toArray := by rw [← Array.toList_map, Array.toArray_toList]
          rw [← e1, hvn] at hrun
          simp only [execOp, Sem.run_bind]
          rw [hrun, hvn]; rfl
        · have hml : (frzM (idss ps) m 0 m).length = m.length := frzM_length _ _ _ _
          rw [← hml] at hs
          refine ⟨_, _, _, hs, h'.lay hd (by simp) (heap_old w _) rfl rfl rfl hu (.row (xs := vs.flatMap fun v => v.cells.toList) hi hzv hzs h0 hby (by omega) ⟨by rw [hlen, hel], .inr ⟨w.heap.size, vs.length, _, by rw [hel], Nat.zero_le _, heap_alloc_new w _, by omega, by simp only [maxLen]; omega, by simpa using hlen, by rw [hel, ← hlen]; exact List.take_length⟩⟩ hsz hfit.flat (fun q j x p hq hj => ?_) hone) .laid⟩
          obtain ⟨u, h1, h2, _⟩ := hcell q j x p hq hj
          exact ⟨u, h1, h2.move (Mv.alloc _ w _) (fun k hk hm => mine_lay hu hk hm)⟩
theorem made_get {z : Array Value} {n i : Nat} (hz : z.size = i) (h0 : 0 < i) {q j : Nat} (hq : q < n) (hj : j < i) : (madeCells z (n * i)).toList[q * i + j]? = z[j]? := by
  have hlt : q * i + j < n * i := by
    have := Nat.mul_le_mul_right i (show q + 1 ≤ n by omega)
    rw [Nat.add_mul, Nat.one_mul] at this; omega
  simp only [madeCells]
  rw [Array.toList_map, Array.toList_range, List.getElem?_map, List.getElem?_range hlt, Option.map_some, hz, Nat.mul_comm q i, Nat.mul_add_mod, Nat.mod_eq_of_lt hj]
  rw [getElem!_pos z j (by omega), Array.getElem?_eq_getElem (by omega)]
theorem zrP_flat {v : Value} (h : flatP (.val v) = true) : flatP (zrP v) = true := by
  unfold zrP
  split
  · simp [flatP] at h
  · exact h
theorem zrP_im {w : World} {N : Nat → Prop} {v : Value} (h : okB v = true) : Im w N (zrP v) v := by
  unfold zrP
  split
  · exact .sl (sz := 0) (fun _ _ => undef) rfl (by simp [maxLen]) (Nat.le_refl _) (by simp) (.inl rfl) (by simp)
  · exact .val h
theorem s_makeSlice (h : Inv c tm m ρ a w) (hd : ∀ t, d = some t → t < c.N) {t : TypeId} {l u : Operand} (hs : step c.P np lent kp tm m d ty k (.makeSlice t l u)) : Oper.wp c.P ⟨d, .makeSlice t l u, ty, pos, af, g⟩ a w (Then c k) Q := by
  simp only [step] at hs
  obtain ⟨e, he, hs⟩ := onS_e hs
  · obtain ⟨z, hz, hs⟩ := onS_e hs
    · obtain ⟨zs, hzo, hs⟩ := onS_e hs
      obtain ⟨k1, n, hl, hs⟩ := onInt_e hs
      obtain ⟨k2, n2, hu, hs⟩ := onInt_e hs
      · have hlv := (hl ▸ h.ev l : Rep c.M w m ρ (.val (.int k1 n)) (a.eval l)).val_eq
        have huv := (hu ▸ h.ev u : Rep c.M w m ρ (.val (.int k2 n2)) (a.eval u)).val_eq
        obtain ⟨⟨hn0, hnu, hu9⟩, hflat, hs⟩ := hs
        · obtain ⟨i, zv, hi, hzv, hzs, h0, hz4, hby, rfl⟩ := rowSize_eq hz
          obtain ⟨i', z', hi', hzv', rfl, hone⟩ := zeroOf_eq hzo
          rw [hi] at hi'; cases hi'
          rw [hzv] at hzv'; cases hzv'
          have hbytes : (i.bytes : Int) * n2 ≤ 281474976710656 := by
            have h1 : (i.bytes : Int) * n2 ≤ (100000 : Int) * n2 := Int.mul_le_mul_of_nonneg_right (by omega) (by omega)
            omega
          have hrun := run_make (P := c.P) w t e i zv (elemOf_eq he) hi hzv k1 k2 n n2 hn0 hnu hbytes (by omega)
          have hown : ∀ k, own1 (.slice (some ⟨w.heap.size, 0, none⟩) n.toNat n2.toNat) = some k → w.heap.size ≤ k := by intro k hk; simp [own1] at hk; omega
          have hsize : (madeCells zv.cells (n2.toNat * i.size)).size = n2.toNat * i.size := by simp [madeCells]
          have hmul : n.toNat * i.size ≤ n2.toNat * i.size := Nat.mul_le_mul_right _ (by omega)
          refine wp_value (v := .slice (some ⟨w.heap.size, 0, none⟩) n.toNat n2.toNat) (w' := w.alloc (.cells (madeCells zv.cells (n2.toNat * i.size)) e)) (by simp [execOp, hlv, huv, hrun]) ⟨_, _, _, hs, h.lay hd (by simp) (heap_old w _) rfl rfl rfl hown (.row (xs := (madeCells zv.cells (n2.toNat * i.size)).toList.take (n.toNat * i.size)) hi hzv hzs h0 hby (by simp; omega) ⟨by rw [List.length_take, Array.length_toList, hsize, List.length_replicate]; omega, .inr ⟨w.heap.size, n2.toNat, _, by rw [List.length_replicate], Nat.zero_le _, heap_alloc_new w _, by rw [List.length_replicate]; omega, by simp only [maxLen]; omega, hsize, by rw [List.length_replicate]⟩⟩ (fun x hx => by rw [List.eq_of_mem_replicate hx]; simpa using hzs) (fun hf x hx p hp => ?_) (fun q j x p hq hj => ?_) (fun v hv => ?_)) .laid⟩
          · rw [List.eq_of_mem_replicate hx] at hp
            obtain ⟨y, hy, rfl⟩ := List.mem_map.1 hp
            have := List.all_eq_true.1 hflat y hy
            rw [hf] at this; exact zrP_flat (by simpa using this)
          · have hql := lt_of_get hq
            rw [List.length_replicate] at hql
            have hx := List.eq_of_mem_replicate (List.mem_of_getElem? hq)
            subst hx
            rw [List.getElem?_map] at hj
            obtain ⟨y, hy, rfl⟩ := Option.map_eq_some_iff.1 hj
            have hjl := lt_of_get hy
            rw [Array.length_toList, hzs] at hjl
            refine ⟨y, ?_, zrP_im (okC_ok (hone y (Array.mem_toList_iff.1 (List.mem_of_getElem? hy))))⟩
            have hlt : q * i.size + j < n.toNat * i.size := by
              have := Nat.mul_le_mul_right i.size (show q + 1 ≤ n.toNat by omega)
              rw [Nat.add_mul, Nat.one_mul] at this; omega
            rw [List.getElem?_take, if_pos hlt, made_get hzs h0 (by omega) hjl, ← hy, Array.getElem?_toList]
          · have hv' := List.mem_of_mem_take hv
            simp only [madeCells] at hv'
            rw [Array.toList_map, Array.toList_range] at hv'
            obtain ⟨q, _, rfl⟩ := List.mem_map.1 hv'
            have hlt : q % zv.cells.size < zv.cells.size := Nat.mod_lt _ (by omega)
            rw [getElem!_pos zv.cells _ hlt]
            exact okC_one (hone _ (Array.getElem_mem hlt))
end
end Go.V
