import Derived.Test.YtbccejopeclhmaaGreatF1
namespace Go.V
open Go Go.RowKit Go.Proofs
set_option maxRecDepth 100000
set_option linter.unusedVariables false
set_option linter.unusedSimpArgs false
theorem if1 {b : Bool} {x y : Prop} (h : b = true) (h1 : x) : @bIf b ⟨x⟩ ⟨y⟩ := if_of (fun _ => h1) (fun h0 => by rw [h] at h0; cases h0)
theorem if0 {b : Bool} {x y : Prop} (h : b = false) (h1 : y) : @bIf b ⟨x⟩ ⟨y⟩ := if_of (fun h0 => by rw [h] at h0; cases h0) (fun _ => h1)
theorem mixed : Tryz.prog.follows .mixedOrders = true := by kernel_rfl
abbrev vi (n : Int) : PV := .val (.int .i64 n)
abbrev vb (b : Bool) : PV := .val (.bool b)
abbrev vs (s : ByteArray) : PV := .val (.string s)
abbrev vu (n : Int) : PV := .val (.int .u64 n)
def no : FuncId → Bool := fun _ => false
theorem no_eq (f : FuncId) : no f = false := rfl
attribute [go_sem] no_eq
instance : Inhabited ByteArray := ⟨⟨#[]⟩⟩
structure Val where
  kind : Int
  int : Int
  str : ByteArray
deriving Inhabited, DecidableEq
structure Term where
  op : Int
  int : Int
  str : ByteArray
deriving Inhabited, DecidableEq
structure Count where
  row : List Val
  diff : Int
deriving Inhabited, DecidableEq
structure Time where
  epoch : Int
  round : Int
deriving Inhabited, DecidableEq
structure Up where
  row : List Val
  time : Time
  diff : Int
deriving Inhabited, DecidableEq
structure Node where
  kind : Int
  ins : List Int
  kinds : List Int
  exprs : List (List Term)
  cols : List Int
  key : Int
  n : Int
  size : Int
  slide : Int
deriving Inhabited, DecidableEq
def eI (n : Int) : List PV := [vi n]
def eB (b : Bool) : List PV := [vb b]
def eV (v : Val) : List PV := [vi v.kind, vi v.int, vs v.str]
def eT (v : Term) : List PV := [vi v.op, vi v.int, vs v.str]
def eR (r : List Val) : List PV := [.sl (r.map eV)]
def eE (l : List Term) : List PV := [.sl (l.map eT)]
def eC (c : Count) : List PV := [.sl (c.row.map eV), vi c.diff]
def eL (c : List Count) : List PV := [.sl (c.map eC)]
def eU (u : Up) : List PV := [.sl (u.row.map eV), vi u.time.epoch, vi u.time.round, vi u.diff]
def eN (n : Node) : List PV := [vi n.kind, .sl (n.ins.map eI), .sl (n.kinds.map eI), .sl (n.exprs.map eE), .sl (n.cols.map eI), vi n.key, vi n.n, vi n.size, vi n.slide]
theorem fitI (l : List Int) : Fit Tryz.prog 3 (l.map eI) = True := eq_true (fit_map eI (fun a => by rw [fit_3]; rfl) l)
theorem fitB (l : List Bool) : Fit Tryz.prog 4 (l.map eB) = True := eq_true (fit_map eB (fun a => by rw [fit_4]; rfl) l)
theorem fitV (l : List Val) : Fit Tryz.prog 83 (l.map eV) = True := eq_true (fit_map eV (fun a => by rw [fit_83]; rfl) l)
theorem fitC (l : List Count) : Fit Tryz.prog 61 (l.map eC) = True := eq_true (fit_map eC (fun a => by rw [fit_61]; rfl) l)
theorem fitU (l : List Up) : Fit Tryz.prog 120 (l.map eU) = True := eq_true (fit_map eU (fun a => by rw [fit_120]; rfl) l)
theorem fitR (l : List (List Val)) : Fit Tryz.prog 59 (l.map eR) = True := eq_true (fit_map eR (fun a => by rw [fit_59]; rfl) l)
theorem fitL (l : List (List Count)) : Fit Tryz.prog 26 (l.map eL) = True := eq_true (fit_map eL (fun a => by rw [fit_26]; rfl) l)
attribute [go_sem] fitI fitB fitV fitC fitU fitR fitL
end Go.V
