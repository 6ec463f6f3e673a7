/-
  No cell of these rows narrows 'for every input' (looked for: loops, veiled, ifaces, maps, wideKeys, modest, calm, conditions, laid).
  DERIVED. THE GIVEN ROWS OF THIS SEAT. 4 by the template 'for every input the law returns true; each argument reads behind the call as it read before'; 0 by the template 'total and deterministic' (their statements: YtmamkmolgbmmaaaTotals.lean).
  GIVEN WITH THE SEED: the statements are not yours to turn. If you find one false, say at which input.
  Laid BY PROGRAM, IN A SANDBOX (cutbox-rows.mjs): the forced cells as the released guide's own fill.sh prints them over the translation 97f4a60dc9a32b57… (all of the seat's roots in one cut). By AI agents, Wed Nov 11 2026. No macro, syntax, notation, axiom, sorry.
-/
import Derived.Test.YtmamkmolgbmmaaaChecked
import GoSem.Claim
import GoSem.ClaimJoined
import GoSem.ClaimMapViews
import Derived.JoinedTies
import Derived.KernelRfl
namespace Go.Proofs.Ytmamkmolgbmmaaa
/- THE CELL 'sum', in the pinned program and in every row, IS THE sha256 OF THE DUMP (.gsa) THAT YtmamkmolgbmmaaaProg.lean LOADS. Nothing in Lean hashes anything: it is a label: what it is worth is what the hold of that sum in a sandbox is worth. -/
noncomputable def Try.pinned : Pinned := { name := "ytmamkmolgbmmaaa", sum := "97f4a60dc9a32b573a280674ce714cca86af92c20ecbded4d9bbd10bed9d5f16", checked := Try.checked }
namespace Rows
def none {H : Type} : Left H := { results := [], args := [] }

/-- 'runnellaw14.WindowAssigns': WHATEVER THE INPUT: true; the input reads as it did. -/
def windowAssignsSpec : ChangeSpec := { name := "windowAssigns", fn := fun _ => fun
  | [d1, d2, d3, d4] => { results := [.lit (.bool true)], args := [d1, d2, d3, d4] }
  | _ => none }
def windowAssignsRow : OpenClaim := { program := "ytmamkmolgbmmaaa", sum := "97f4a60dc9a32b573a280674ce714cca86af92c20ecbded4d9bbd10bed9d5f16", func := "runnel/runnellaw14.WindowAssigns", spec := "windowAssigns", apart := false }
def WindowAssignsSaid : Prop := windowAssignsRow.holds Try.pinned (OpenSpec.ofChange windowAssignsSpec)

/-- ITS FALSE NEIGHBOUR: 'it returns false'. Refute it at one input. -/
def windowAssignsWrong : ChangeSpec := { name := "windowAssigns", fn := fun _ => fun
  | [d1, d2, d3, d4] => { results := [.lit (.bool false)], args := [d1, d2, d3, d4] }
  | _ => none }
def WindowAssignsWrongFalsely : Prop := windowAssignsRow.holds Try.pinned (OpenSpec.ofChange windowAssignsWrong)

/-- 'runnellaw08.ExprLaws': WHATEVER THE INPUT: true; the input reads as it did. -/
def exprLawsSpec : ChangeSpec := { name := "exprLaws", fn := fun _ => fun
  | [d1, d2] => { results := [.lit (.bool true)], args := [d1, d2] }
  | _ => none }
def exprLawsRow : OpenClaim := { program := "ytmamkmolgbmmaaa", sum := "97f4a60dc9a32b573a280674ce714cca86af92c20ecbded4d9bbd10bed9d5f16", func := "runnel/runnellaw08.ExprLaws", spec := "exprLaws", unfollowed := true, recurses := true, apart := false }
def ExprLawsSaid : Prop := exprLawsRow.holds Try.pinned (OpenSpec.ofChange exprLawsSpec)

/-- ITS FALSE NEIGHBOUR: 'it returns false'. Refute it at one input. -/
def exprLawsWrong : ChangeSpec := { name := "exprLaws", fn := fun _ => fun
  | [d1, d2] => { results := [.lit (.bool false)], args := [d1, d2] }
  | _ => none }
def ExprLawsWrongFalsely : Prop := exprLawsRow.holds Try.pinned (OpenSpec.ofChange exprLawsWrong)

/-- 'runnellaw08.ExprKinds': WHATEVER THE INPUT: true; the input reads as it did. -/
def exprKindsSpec : ChangeSpec := { name := "exprKinds", fn := fun _ => fun
  | [d1, d2, d3] => { results := [.lit (.bool true)], args := [d1, d2, d3] }
  | _ => none }
def exprKindsRow : OpenClaim := { program := "ytmamkmolgbmmaaa", sum := "97f4a60dc9a32b573a280674ce714cca86af92c20ecbded4d9bbd10bed9d5f16", func := "runnel/runnellaw08.ExprKinds", spec := "exprKinds", unfollowed := true, recurses := true, apart := false }
def ExprKindsSaid : Prop := exprKindsRow.holds Try.pinned (OpenSpec.ofChange exprKindsSpec)

/-- ITS FALSE NEIGHBOUR: 'it returns false'. Refute it at one input. -/
def exprKindsWrong : ChangeSpec := { name := "exprKinds", fn := fun _ => fun
  | [d1, d2, d3] => { results := [.lit (.bool false)], args := [d1, d2, d3] }
  | _ => none }
def ExprKindsWrongFalsely : Prop := exprKindsRow.holds Try.pinned (OpenSpec.ofChange exprKindsWrong)

/-- 'runnellaw08.ExprCols': WHATEVER THE INPUT: true; the input reads as it did. -/
def exprColsSpec : ChangeSpec := { name := "exprCols", fn := fun _ => fun
  | [d] => { results := [.lit (.bool true)], args := [d] }
  | _ => none }
def exprColsRow : OpenClaim := { program := "ytmamkmolgbmmaaa", sum := "97f4a60dc9a32b573a280674ce714cca86af92c20ecbded4d9bbd10bed9d5f16", func := "runnel/runnellaw08.ExprCols", spec := "exprCols", unfollowed := true, recurses := true, apart := false }
def ExprColsSaid : Prop := exprColsRow.holds Try.pinned (OpenSpec.ofChange exprColsSpec)

/-- ITS FALSE NEIGHBOUR: 'it returns false'. Refute it at one input. -/
def exprColsWrong : ChangeSpec := { name := "exprCols", fn := fun _ => fun
  | [d] => { results := [.lit (.bool false)], args := [d] }
  | _ => none }
def ExprColsWrongFalsely : Prop := exprColsRow.holds Try.pinned (OpenSpec.ofChange exprColsWrong)

/- THE SECOND FORM. 'bulk': how many values and letters a reading holds, each counted each time it is reached (what is shared counts as often as it is met; a slice's spare places count too). A statement '..UptoSaid' is the law's where the arguments, and the package variables that the reading takes, are together of bulk at most 1048576: NARROWER than '..Said'. Prove '..Said' where nothing that the law and all that it calls make is longer than what came in: it says more and counts as full. Else prove '..UptoSaid'. A law counts once. -/
mutual
def uptoBulk {H : Type} : DataW H → Nat
  | .lit (.string bytes) => bytes.length + 1
  | .lit _ => 1
  | .nil => 1
  | .ptr d => uptoBulk d + 1
  | .slice elems spare => uptoBulkAll elems + uptoBulkAll spare + 1
  | .agg parts => uptoBulkAll parts + 1
  | .iface _ d => uptoBulk d + 1
  | .map entries => uptoBulkEntries entries + 1
  | .held _ => 1
def uptoBulkAll {H : Type} : List (DataW H) → Nat
  | [] => 0
  | d :: r => uptoBulk d + uptoBulkAll r
def uptoBulkEntries {H : Type} : List (Lit × DataW H) → Nat
  | [] => 0
  | x :: r => uptoBulkEntry x + uptoBulkEntries r
def uptoBulkEntry {H : Type} : Lit × DataW H → Nat
  | (.string bytes, d) => bytes.length + uptoBulk d + 1
  | (_, d) => uptoBulk d + 1
 end
def uptoSmall : (H : Type) → List (DataW H) → Bool := fun _ ds => decide (uptoBulkAll ds ≤ 1048576)
def OpenSpec.upto (s : _root_.Go.ChangeSpec) : _root_.Go.OpenSpec := { _root_.Go.OpenSpec.ofChange s with cond := some uptoSmall }

/-- 'runnellaw14.WindowAssigns', WHERE WHAT IT READS IS OF BULK AT MOST 1048576: true; the input reads as it did. -/
def windowAssignsUptoRow : OpenClaim := { program := "ytmamkmolgbmmaaa", sum := "97f4a60dc9a32b573a280674ce714cca86af92c20ecbded4d9bbd10bed9d5f16", func := "runnel/runnellaw14.WindowAssigns", spec := "windowAssigns", apart := false, narrowed := true }
def WindowAssignsUptoSaid : Prop := windowAssignsUptoRow.holds Try.pinned (OpenSpec.upto windowAssignsSpec)

/-- 'runnellaw08.ExprLaws', WHERE WHAT IT READS IS OF BULK AT MOST 1048576: true; the input reads as it did. -/
def exprLawsUptoRow : OpenClaim := { program := "ytmamkmolgbmmaaa", sum := "97f4a60dc9a32b573a280674ce714cca86af92c20ecbded4d9bbd10bed9d5f16", func := "runnel/runnellaw08.ExprLaws", spec := "exprLaws", unfollowed := true, recurses := true, apart := false, narrowed := true }
def ExprLawsUptoSaid : Prop := exprLawsUptoRow.holds Try.pinned (OpenSpec.upto exprLawsSpec)

/-- 'runnellaw08.ExprKinds', WHERE WHAT IT READS IS OF BULK AT MOST 1048576: true; the input reads as it did. -/
def exprKindsUptoRow : OpenClaim := { program := "ytmamkmolgbmmaaa", sum := "97f4a60dc9a32b573a280674ce714cca86af92c20ecbded4d9bbd10bed9d5f16", func := "runnel/runnellaw08.ExprKinds", spec := "exprKinds", unfollowed := true, recurses := true, apart := false, narrowed := true }
def ExprKindsUptoSaid : Prop := exprKindsUptoRow.holds Try.pinned (OpenSpec.upto exprKindsSpec)

/-- 'runnellaw08.ExprCols', WHERE WHAT IT READS IS OF BULK AT MOST 1048576: true; the input reads as it did. -/
def exprColsUptoRow : OpenClaim := { program := "ytmamkmolgbmmaaa", sum := "97f4a60dc9a32b573a280674ce714cca86af92c20ecbded4d9bbd10bed9d5f16", func := "runnel/runnellaw08.ExprCols", spec := "exprCols", unfollowed := true, recurses := true, apart := false, narrowed := true }
def ExprColsUptoSaid : Prop := exprColsUptoRow.holds Try.pinned (OpenSpec.upto exprColsSpec)

end Rows
end Go.Proofs.Ytmamkmolgbmmaaa
