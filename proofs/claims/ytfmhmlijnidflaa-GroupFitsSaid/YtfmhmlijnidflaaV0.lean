import Derived.Deep.AppendLies
import Derived.Tactics
import Derived.Laws.StructEq
import Derived.ChangeKeysEq
set_option linter.unusedVariables false
set_option linter.unusedSimpArgs false
namespace Go.V
open Go

/-- A value that is told, whatever memory it lies in. -/
inductive PV where
  | val (x : Value)
  | any
  | sl (es : List (List PV))
  | own (b : Nat)
  | osl (b l h : Nat)
  | adr (b o : Nat)
  | ead (b i j : Nat)
  | cad (cs : List PV)
  | agg (cs : List PV)
  | tup (vs : List PV)
  | fn (f : FuncId) (caps : List PV)
inductive Blk where
  | dead
  | var (cs : List PV)
  | row (e : TypeId) (es : List (List PV))
abbrev Tm := List (Nat × PV)
abbrev Mem := List Blk
/-- A number that fits its kind; a text of some length. -/
def okB : Value → Bool
  | .int k n => decide (k.min ≤ n ∧ n ≤ k.max)
  | .string s => decide (s.size ≤ 140737488355328)
  | _ => true
def okC (x : Value) : Bool := x.oneCell' && okB x
def boolT (P : Program) (t : TypeId) : Bool := match P.underlying t with
  | some .bool => true
  | _ => false
def sliceT (P : Program) (t : TypeId) : Bool := match P.underlying t with
  | some (.slice _) => true
  | _ => false
def binV (P : Program) (t : TypeId) (op : BinOp) : Value → Value → Option Value
  | .int k a, .int k' b => if k = k' then (match op with
    | .add => some (.int k (k.wrap (a + b)))
    | .sub => some (.int k (k.wrap (a - b)))
    | .mul => some (.int k (k.wrap (a * b)))
    | .quo => if b = 0 then none else some (.int k (k.wrap (a.tdiv b)))
    | .rem => if b = 0 then none else some (.int k (a.tmod b))
    | .eql => some (.bool (a == b))
    | .neq => some (.bool (a != b))
    | .lss => some (.bool (decide (a < b)))
    | .leq => some (.bool (decide (a ≤ b)))
    | .gtr => some (.bool (decide (a > b)))
    | .geq => some (.bool (decide (a ≥ b)))
    | .shr => if k = .u64 ∧ b = 32 then some (.int k (a / 4294967296)) else if k = .u64 ∧ b = 1 then some (.int k (a / 2)) else none
    | .and => if k = .u64 ∧ b = 4294967295 then some (.int k (a % 4294967296)) else none
    | _ => none) else none
  | .bool a, .bool b => if boolT P t = true then (match op with
    | .eql => some (.bool (a == b))
    | .neq => some (.bool (a != b))
    | _ => none) else none
  | .string a, .string b => match op with
    | .eql => some (.bool (a.toList == b.toList))
    | .neq => some (.bool !(a.toList == b.toList))
    | .lss => some (.bool (Op.bytesLess a.toList b.toList))
    | .gtr => some (.bool !(Op.bytesLess a.toList b.toList || a.toList == b.toList))
    | .add => if a.size + b.size ≤ 1000000000000 then some (.string (a ++ b)) else none
    | _ => none
  | _, _ => none
def unV (op : UnOp) : Value → Option Value
  | .int k a => match op with
    | .neg => some (.int k (k.wrap (0 - a)))
    | _ => none
  | .bool b => match op with
    | .not => some (.bool !b)
    | _ => none
  | _ => none
def cut : Value → PV
  | .agg cs => if cs.toList.all okC = true then .agg (cs.toList.map .val) else .any
  | v => if okB v = true then .val v else .any
section
variable (o : Nat → PV) (s : Nat → Nat → Nat → PV) (a : Nat → Nat → PV) (e : Nat → Nat → Nat → PV) (c : List PV → PV)
mutual
/-- The same value, where a mention of one's own is told anew. -/
def tr : PV → PV
  | .own b => o b
  | .osl b l h => s b l h
  | .adr b i => a b i
  | .ead b i j => e b i j
  | .cad cs => c cs
  | .agg cs => .agg (trs cs)
  | .tup cs => .tup (trs cs)
  | .fn f cs => .fn f (trs cs)
  | .val x => .val x
  | .any => .any
  | .sl es => .sl es
def trs : List PV → List PV
  | [] => []
  | p :: l => tr p :: trs l
end
end
mutual
/-- The places of m that a value leads to. -/
def ids : PV → List Nat
  | .own b => [b]
  | .osl b _ _ => [b]
  | .adr b _ => [b]
  | .ead b _ _ => [b]
  | .agg cs => idss cs
  | .tup cs => idss cs
  | .fn _ cs => idss cs
  | _ => []
def idss : List PV → List Nat
  | [] => []
  | p :: l => ids p ++ idss l
end
mutual
/-- Told with no mention of one's own. -/
def pure : PV → Bool
  | .val _ => true
  | .any => true
  | .sl .. => true
  | .agg cs => pures cs
  | .tup cs => pures cs
  | .fn _ cs => pures cs
  | _ => false
def pures : List PV → Bool
  | [] => true
  | p :: l => pure p && pures l
end
def flatP : PV → Bool
  | .any => true
  | .val (.int _ _) => true
  | .val (.bool _) => true
  | .val (.string _) => true
  | _ => false
def scalarT (P : Program) (t : TypeId) : Bool := match P.underlying t with
  | some (.int _) => true
  | some .bool => true
  | some .string => true
  | _ => false
/-- Rows of such elements lead nowhere. -/
def flatT (P : Program) (t : TypeId) : Bool := match P.underlying t with
  | some (.struct fs) => fs.toList.all fun f => scalarT P f.type
  | _ => scalarT P t
mutual
/-- Nothing that lies in memory is told, but what is one's own. -/
def closed : PV → Bool
  | .sl _ => false
  | .cad _ => false
  | .agg cs => closeds cs
  | .tup cs => closeds cs
  | .fn _ cs => closeds cs
  | _ => true
def closeds : List PV → Bool
  | [] => true
  | p :: l => closed p && closeds l
end
def closedM (P : Program) : Mem → Bool
  | [] => true
  | .dead :: l => closedM P l
  | .var cs :: l => closeds cs && closedM P l
  | .row e _ :: l => flatT P e && closedM P l
def wipe1 (b : Nat) : PV → PV := tr (fun c => if c = b then .any else .own c) (fun c l h => if c = b then .any else .osl c l h) .adr (fun c i j => if c = b then .any else .ead c i j) .cad
def wipeT (b : Nat) : Tm → Tm
  | [] => []
  | (t, p) :: l => (t, wipe1 b p) :: wipeT b l
def wipeM (b : Nat) : Mem → Mem
  | [] => []
  | .var cs :: l => .var (cs.map (wipe1 b)) :: wipeM b l
  | x :: l => x :: wipeM b l
/-- A cell of a variable that is lent: pointers are not told. -/
def seen0 (m : Mem) : PV → PV := tr (fun c => match m[c]? with | some (.row _ es) => .sl es | _ => .any) (fun c l h => match m[c]? with | some (.row _ es) => .sl ((es.take h).drop l) | _ => .any) (fun _ _ => .any) (fun _ _ _ => .any) (fun _ => .any)
/-- The places of m, and those that the variables among them lead to. -/
def deepGo (m : Mem) : List Nat → List Nat
  | [] => []
  | b :: l => (match m[b]? with | some (.var cs) => idss cs | _ => []) ++ deepGo m l
def deep (m : Mem) (bs : List Nat) : List Nat := bs ++ deepGo m bs
def isEad : PV → Bool
  | .ead _ _ _ => true
  | .val _ => false
  | .any => false
  | .sl _ => false
  | .own _ => false
  | .osl _ _ _ => false
  | .adr _ _ => false
  | .cad _ => false
  | .agg _ => false
  | .tup _ => false
  | .fn _ _ => false
def nilV : Value → Bool
  | .slice none 0 0 => true
  | _ => false
def nilP : PV → Bool
  | .ead _ _ _ => false
  | .val v => nilV v
  | .any => false
  | .sl _ => false
  | .own _ => false
  | .osl _ _ _ => false
  | .adr _ _ => false
  | .cad _ => false
  | .agg _ => false
  | .tup _ => false
  | .fn _ _ => false
def none0 : List Nat → Bool
  | [] => true
  | _ :: _ => false
def both (x y : Prop) : Prop := x ∧ y
/-- What is one's own, seen as what is only read. -/
def seen (m : Mem) : PV → PV := tr (fun c => match m[c]? with | some (.row _ es) => .sl es | _ => .any) (fun c l h => match m[c]? with | some (.row _ es) => .sl ((es.take h).drop l) | _ => .any)
  (fun c i => match m[c]? with | some (.var cs) => .cad ((cs.map (seen0 m)).drop i) | _ => .any)
  (fun c i j => match m[c]? with | some (.row _ es) => (match es[i]? with | some x => .cad (x.drop j) | none => .any) | _ => .any) .cad
def get : Tm → Nat → PV
  | [], _ => .any
  | (k, p) :: l, t => if k = t then p else get l t
def ev (tm : Tm) : Operand → PV
  | .tmp t => get tm t
  | .const v => cut v
  | .func f => .fn f []
  | .global _ => .any
def put (tm : Tm) : Option Tmp → PV → Tm
  | some t, p => (t, p) :: tm
  | none, _ => tm
def loadC (P : Program) (t : TypeId) (cs : List PV) : Option PV :=
  match P.underlying t, P.info? t with
  | some (.struct _), some i => if i.size ≤ cs.length then some (.agg (cs.take i.size)) else none
  | some (.array _ _), _ => none
  | some _, some _ => cs.head?
  | _, _ => none
def idx (es : List (List PV)) (i : Int) : Option (List PV) := if 0 ≤ i ∧ i < es.length then es[i.toNat]? else none
def fieldOff (P : Program) (s : TypeId) (f : Nat) : Option Nat :=
  match P.underlying s with
  | some (.struct fs) => match fs[f]? with
    | some x => match P.info? x.type with
      | some i => if i.size = 0 then none else some x.offset
      | none => none
    | none => none
  | _ => none
/-- The rows of bs are one's own no more. -/
def frz1 (bs : List Nat) (m : Mem) : PV → PV := tr (fun c => if bs.contains c = true then seen m (.own c) else .own c) (fun c l h => if bs.contains c = true then seen m (.osl c l h) else .osl c l h) .adr (fun c i j => if bs.contains c = true then seen m (.ead c i j) else .ead c i j) .cad
def frzT (bs : List Nat) (m : Mem) : Tm → Tm
  | [] => []
  | (t, p) :: l => (t, frz1 bs m p) :: frzT bs m l
def frzM (bs : List Nat) (m : Mem) : Nat → Mem → Mem
  | _, [] => []
  | c, .var cs :: l => .var (cs.map (frz1 bs m)) :: frzM bs m (c + 1) l
  | c, .row e es :: l => (if bs.contains c = true then .dead else .row e es) :: frzM bs m (c + 1) l
  | c, .dead :: l => .dead :: frzM bs m (c + 1) l
def rowSize (P : Program) (e : TypeId) : Option Nat :=
  match P.info? e with
  | some i => match i.zero with
    | some z => if z.cells.size = i.size ∧ 0 < i.size ∧ i.size ≤ 10000 ∧ i.bytes ≤ 100000 then some i.size else none
    | none => none
  | none => none
def elemOf (P : Program) (t : TypeId) : Option TypeId :=
  match P.underlying t with
  | some (.slice e) => some e
  | _ => none
def elemSize (P : Program) (t : TypeId) : Option Nat := (elemOf P t).bind fun e => (P.info? e).map (·.size)
/-- A row's element, as it must be. -/
def FitC (P : Program) (e : TypeId) (c : List PV) : Prop := rowSize P e = some c.length ∧ pures c = true ∧ (flatT P e = true → ∀ p ∈ c, flatP p = true)
def Fit (P : Program) (e : TypeId) (es : List (List PV)) : Prop := ∀ c ∈ es, FitC P e c
def onS {α : Type} (o : Option α) (k : α → Prop) : Prop := match o with
  | some a => k a
  | none => False
def onInt (p : PV) (k : IntKind → Int → Prop) : Prop := match p with
  | .val (.int kd n) => k kd n
  | _ => False
def onBool (p : PV) (k : Bool → Prop) : Prop := match p with
  | .val (.bool b) => k b
  | _ => False
def onStr (p : PV) (k : ByteArray → Prop) : Prop := match p with
  | .val (.string s) => k s
  | _ => False
def onVal (p : PV) (k : Value → Prop) : Prop := match p with
  | .val x => k x
  | _ => False
/-- A value of one cell, or a struct. -/
def onValA (p : PV) (k : Value → Prop) (ka : List PV → Prop) : Prop := match p with
  | .val x => k x
  | .agg cs => ka cs
  | _ => False
def onAgg (p : PV) (k : List PV → Prop) : Prop := match p with
  | .agg cs => k cs
  | _ => False
/-- Where the cells of a struct of plain fields lie, and of which kind they are. -/
def eqShape (P : Program) (t : TypeId) : Option (List (Nat × Nat)) := match P.underlying t with
  | some (.struct fs) => if P.stoodInHeld t = false ∧ P.eqGuardType P.depth t = false then fs.toList.mapM fun f => if f.name = "_" then none else match P.underlying f.type with
    | some (.int _) => some (f.offset, 0)
    | some .bool => some (f.offset, 1)
    | some .string => some (f.offset, 2)
    | _ => none
    else none
  | _ => none
def eqGo : List (Nat × Nat) → List PV → List PV → Option Bool
  | [], _, _ => some true
  | (o, 0) :: l, cs, ds => match cs[o]?, ds[o]? with
    | some (.val (.int k a)), some (.val (.int k' b)) => if k = k' then (eqGo l cs ds).map ((a == b) && ·) else none
    | _, _ => none
  | (o, 1) :: l, cs, ds => match cs[o]?, ds[o]? with
    | some (.val (.bool a)), some (.val (.bool b)) => (eqGo l cs ds).map ((a == b) && ·)
    | _, _ => none
  | (o, 2) :: l, cs, ds => match cs[o]?, ds[o]? with
    | some (.val (.string a)), some (.val (.string b)) => (eqGo l cs ds).map ((a.toList == b.toList) && ·)
    | _, _ => none
  | _ :: _, _, _ => none
def onTup (p : PV) (k : List PV → Prop) : Prop := match p with
  | .tup vs => k vs
  | _ => False
def onFn (p : PV) (k : FuncId → List PV → Prop) : Prop := match p with
  | .fn g caps => k g caps
  | _ => False
def onPtr (p : PV) (ka : Nat → Nat → Prop) (ke : Nat → Nat → Nat → Prop) (kc : List PV → Prop) : Prop := match p with
  | .adr b o => ka b o
  | .ead b i j => ke b i j
  | .cad cs => kc cs
  | _ => False
def onRow (p : PV) (ks : List (List PV) → Prop) (ko : Nat → Prop) (kl : Nat → Nat → Nat → Prop) : Prop := match p with
  | .sl es => ks es
  | .own b => ko b
  | .osl b l h => kl b l h
  | _ => False
def onApp (p : PV) (ko : Nat → Prop) (kl : Nat → Nat → Prop) (kn : Prop) (kq : Nat → Nat → Nat → Prop) : Prop := match p with
  | .own b => ko b
  | .osl b 0 h => kl b h
  | .osl b (l + 1) h => kq b (l + 1) h
  | .val (.slice none 0 0) => kn
  | _ => False
def onRowB (o : Option Blk) (k : TypeId → List (List PV) → Prop) : Prop := match o with
  | some (.row e es) => k e es
  | _ => False
def onVarB (o : Option Blk) (k : List PV → Prop) : Prop := match o with
  | some (.var cs) => k cs
  | _ => False
def onOne {α : Type} (l : List α) (k : α → Prop) : Prop := match l with
  | [x] => k x
  | _ => False
def onTwo {α : Type} (l : List α) (k : α → α → Prop) : Prop := match l with
  | [x, y] => k x y
  | _ => False
def ifB (b : Bool) (x y : Prop) : Prop := if b = true then x else y
def need (p k : Prop) : Prop := p ∧ k
def know (p k : Prop) : Prop := p → k
def nilQ (es : List (List PV)) (k : Bool → Prop) : Prop := ∀ b : Bool, (b = true → es = []) → k b
theorem onS_e {α : Type} {o : Option α} {k : α → Prop} (h : onS o k) : ∃ a, o = some a ∧ k a := by unfold onS at h; split at h <;> first | exact ⟨_, rfl, h⟩ | exact h.elim
theorem onInt_e {p : PV} {k : IntKind → Int → Prop} (h : onInt p k) : ∃ kd n, p = .val (.int kd n) ∧ k kd n := by unfold onInt at h; split at h <;> first | exact ⟨_, _, rfl, h⟩ | exact h.elim
theorem onBool_e {p : PV} {k : Bool → Prop} (h : onBool p k) : ∃ b, p = .val (.bool b) ∧ k b := by unfold onBool at h; split at h <;> first | exact ⟨_, rfl, h⟩ | exact h.elim
theorem onStr_e {p : PV} {k : ByteArray → Prop} (h : onStr p k) : ∃ b, p = .val (.string b) ∧ k b := by unfold onStr at h; split at h <;> first | exact ⟨_, rfl, h⟩ | exact h.elim
theorem onVal_e {p : PV} {k : Value → Prop} (h : onVal p k) : ∃ x, p = .val x ∧ k x := by unfold onVal at h; split at h <;> first | exact ⟨_, rfl, h⟩ | exact h.elim
theorem onValA_e {p : PV} {k : Value → Prop} {ka : List PV → Prop} (h : onValA p k ka) : (∃ x, p = .val x ∧ k x) ∨ ∃ cs, p = .agg cs ∧ ka cs := by unfold onValA at h; split at h <;> first | exact .inl ⟨_, rfl, h⟩ | exact .inr ⟨_, rfl, h⟩ | exact h.elim
theorem onAgg_e {p : PV} {k : List PV → Prop} (h : onAgg p k) : ∃ cs, p = .agg cs ∧ k cs := by unfold onAgg at h; split at h <;> first | exact ⟨_, rfl, h⟩ | exact h.elim
theorem onTup_e {p : PV} {k : List PV → Prop} (h : onTup p k) : ∃ x, p = .tup x ∧ k x := by unfold onTup at h; split at h <;> first | exact ⟨_, rfl, h⟩ | exact h.elim
theorem onFn_e {p : PV} {k : FuncId → List PV → Prop} (h : onFn p k) : ∃ g x, p = .fn g x ∧ k g x := by unfold onFn at h; split at h <;> first | exact ⟨_, _, rfl, h⟩ | exact h.elim
theorem onRowB_e {o : Option Blk} {k : TypeId → List (List PV) → Prop} (h : onRowB o k) : ∃ e es, o = some (.row e es) ∧ k e es := by unfold onRowB at h; split at h <;> first | exact ⟨_, _, rfl, h⟩ | exact h.elim
theorem onVarB_e {o : Option Blk} {k : List PV → Prop} (h : onVarB o k) : ∃ cs, o = some (.var cs) ∧ k cs := by unfold onVarB at h; split at h <;> first | exact ⟨_, rfl, h⟩ | exact h.elim
theorem onOne_e {α : Type} {l : List α} {k : α → Prop} (h : onOne l k) : ∃ x, l = [x] ∧ k x := by unfold onOne at h; split at h <;> first | exact ⟨_, rfl, h⟩ | exact h.elim
theorem onTwo_e {α : Type} {l : List α} {k : α → α → Prop} (h : onTwo l k) : ∃ x y, l = [x, y] ∧ k x y := by unfold onTwo at h; split at h <;> first | exact ⟨_, _, rfl, h⟩ | exact h.elim
def at1 (m : Mem) : PV → (List PV → Prop) → Prop
  | .adr b o, k => onVarB m[b]? fun cs => k (cs.drop o)
  | .ead b i j, k => onRowB m[b]? fun _ es => onS es[i]? fun e => k (e.drop j)
  | .cad cs, k => k cs
  | _, _ => False
def row1 (m : Mem) : PV → (List (List PV) → Prop) → Prop
  | .sl es, k => k es
  | .own b, k => onRowB m[b]? fun _ es => k es
  | .osl b l h, k => onRowB m[b]? fun _ es => k ((es.take h).drop l)
  | .val (.slice none 0 0), k => k []
  | _, _ => False
/-- The cells of a value that may lie in a block. -/
def cells (p : PV) (k : List PV → Prop) : Prop := match p with
  | .agg cs => k cs
  | .val x => need (x.oneCell' = true) (k [.val x])
  | .any | .tup _ => False
  | p => k [p]
def partCells : List PV → (List (List PV) → Prop) → Prop
  | [], k => k []
  | p :: l, k => cells p fun c => partCells l fun cs => k (c :: cs)
def splice {α : Type} (l : List α) (o : Nat) (ns : List α) : List α := l.take o ++ (ns ++ l.drop (o + ns.length))
def sizeT (P : Program) (t : TypeId) : Option Nat := (P.info? t).map (·.size)
/-- Where the fields of a struct lie, and its zero. -/
def layout (P : Program) (t : TypeId) : Option (List (Nat × Nat) × List Value) :=
  match P.underlying t, (P.info? t).bind (·.zero) with
  | some (.struct fs), some z => match fs.toList.mapM fun f => (P.info? f.type).map fun i => (f.offset, i.size) with
    | some pl => if z.cells.toList.all okC = true then some (pl, z.cells.toList) else none
    | none => none
  | _, _ => none
def zeroOf (P : Program) (t : TypeId) : Option (List Value) :=
  match (P.info? t).bind (·.zero) with
  | some z => if z.cells.toList.all okC = true then some z.cells.toList else none
  | none => none
def fillB (pl : List (Nat × Nat)) : List PV → List (Nat × PV) → (List PV → Prop) → Prop
  | cs, [], k => k cs
  | cs, (i, p) :: l, k => onS pl[i]? fun x => cells p fun ns => need (ns.length = x.2 ∧ x.1 + ns.length ≤ cs.length) (fillB pl (splice cs x.1 ns) l k)
def intT (P : Program) (s t : TypeId) : Option IntKind := match P.underlying s, P.underlying t with
  | some _, some (.int k) => some k
  | _, _ => none
/-- A bound of a slice. -/
def bound (z : Int) : Option PV → Option Int
  | none => some z
  | some (.val (.int _ n)) => some n
  | _ => none
def seqFrom : Nat → List (Nat × Operand) → Bool
  | _, [] => true
  | i, (j, _) :: l => i == j && seqFrom (i + 1) l
/-! places of m by other numbers -/
def pos (n : Nat) (es : List Nat) (b : Nat) : Option Nat := if b < n then some b else (es.idxOf? b).map (· + n)
def ren (σ : Nat → Option Nat) (kc : Bool) : PV → PV := tr (fun b => match σ b with | some c => .own c | none => .any) (fun b l h => match σ b with | some c => .osl c l h | none => .any)
  (fun b i => match σ b with | some c => .adr c i | none => .any) (fun b i j => match σ b with | some c => .ead c i j | none => .any) (fun cs => if kc = true then .cad cs else .any)
def renB (σ : Nat → Option Nat) (kc : Bool) : Blk → Blk
  | .var cs => .var (cs.map (ren σ kc))
  | x => x
def dd : List Nat → List Nat → List Nat
  | acc, [] => acc
  | acc, b :: l => if acc.contains b = true then dd acc l else dd (acc ++ [b]) l
def above (n : Nat) : List Nat → List Nat
  | [] => []
  | b :: l => if b < n then above n l else b :: above n l
def cellIds (m : Mem) : List Nat → List Nat
  | [] => []
  | b :: l => (match m[b]? with | some (.var cs) => idss cs | _ => []) ++ cellIds m l
def fore (m : Mem) : Nat → List Nat
  | 0 => []
  | n + 1 => fore m n ++ (match m[n]? with | some (.var cs) => idss cs | _ => [])
/-- The places that are reached, each once. -/
def reach (n : Nat) (m : Mem) (ps : List PV) : List Nat :=
  let es := dd [] (above n (fore m n ++ idss ps))
  dd es (above n (cellIds m es))
def canonM (n : Nat) (m : Mem) (es : List Nat) (kc : Bool) : Mem := (m.take n).map (renB (pos n es) kc) ++ es.map fun b => renB (pos n es) kc (m[b]?.getD .dead)
def keep (tm : Tm) : List Nat → Tm
  | [] => []
  | t :: l => (t, get tm t) :: keep tm l
def vals : Tm → List PV
  | [] => []
  | (_, p) :: l => p :: vals l
def renT (σ : Nat → Option Nat) (kc : Bool) : Tm → Tm
  | [] => []
  | (t, p) :: l => (t, ren σ kc p) :: renT σ kc l
/-- The state at the head of a loop, where just some slots live on. -/
def head (n : Nat) (live : List Nat) (tm : Tm) (m : Mem) (X : Tm → Mem → Prop) : Prop :=
  X (renT (pos n (reach n m (vals (keep tm live)))) true (keep tm live)) (canonM n m (reach n m (vals (keep tm live))) true)
/-- The state where a function ends. -/
def fin (n : Nat) (m : Mem) (p : PV) (Q : PV → Mem → Prop) : Prop := Q (ren (pos n (reach n m [p])) false p) (canonM n m (reach n m [p]) false)
def shift (n : Nat) : Nat → Option Nat := fun b => some (b + n)
/-- The orders of a region's operations that are walked. -/
inductive Tr where
  | nil
  | one (k : Nat) (t : Tr)
  | alt (s t : Tr)
inductive Ex where
  | normal | exit (id : Nat) | ret | pan (v : Value)
abbrev KF := Ex → Tm → Mem → Prop
def leave (id : Nat) (K : KF) : KF := fun e tm m => match e with | .exit i => if i = id then K .normal tm m else K (.exit i) tm m | e => K e tm m
def andThen (K1 : Tm → Mem → Prop) (K : KF) : KF := fun e tm m => match e with | .normal => K1 tm m | e => K e tm m
def number : Nat → List PV → Tm
  | _, [] => []
  | k, p :: ps => (k, p) :: number (k + 1) ps
def slots : List (Nat × List Nat) → Nat → List Nat
  | [], _ => []
  | (k, x) :: l, f => if k = f then x else slots l f
def boolOf (want : Bool) : PV → Option Bool
  | .val (.bool b) => some (b == want)
  | .val (.tuple _) => some false
  | _ => none
def dstAt : List Oper → Nat → Option Tmp
  | [], _ => none
  | o :: _, 0 => o.dst
  | _ :: l, j + 1 => dstAt l j
def toldAt (tm : Tm) (want : Bool) : Option Tmp → Option Bool
  | some t => boolOf want (get tm t)
  | none => none
/-- Is an operation wanted that waits for another one's result? -/
def told (ops : Array Oper) (tm : Tm) (j : Nat) (want : Bool) : Option Bool := toldAt tm want (dstAt ops.toList j)
end Go.V
