/-
  No cell of these rows narrows 'for every input' (looked for: loops, veiled, ifaces, maps, wideKeys, modest, calm, conditions, laid).
  DERIVED. THE GIVEN ROWS OF THIS SEAT. 9 by the template 'for every input the law returns true; each argument reads behind the call as it read before'; 0 by the template 'total and deterministic' (their statements: YtamlfncglhoolaaTotals.lean).
  GIVEN WITH THE SEED: the statements are not yours to turn. If you find one false, say at which input.
  Laid BY PROGRAM, IN A SANDBOX (cutbox-rows.mjs): the forced cells as the released guide's own fill.sh prints them over the translation 35ed9fa707496a44… (all of the seat's roots in one cut). By AI agents, Wed Nov 11 2026. No macro, syntax, notation, axiom, sorry.
-/
import Derived.Test.YtamlfncglhoolaaChecked
import GoSem.Claim
import GoSem.ClaimJoined
import GoSem.ClaimMapViews
import Derived.JoinedTies
import Derived.KernelRfl
namespace Go.Proofs.Ytamlfncglhoolaa
/- THE CELL 'sum', in the pinned program and in every row, IS THE sha256 OF THE DUMP (.gsa) THAT YtamlfncglhoolaaProg.lean LOADS. Nothing in Lean hashes anything: it is a label: what it is worth is what the hold of that sum in a sandbox is worth. -/
noncomputable def Try.pinned : Pinned := { name := "ytamlfncglhoolaa", sum := "35ed9fa707496a44ddcbdefa85e5f9715935d4c6c464a5a371069564e97a90f8", checked := Try.checked }
namespace Rows
def none {H : Type} : Left H := { results := [], args := [] }

/-- 'runnellaw06.WeighProducts': WHATEVER THE INPUT: true; the input reads as it did. -/
def weighProductsSpec : ChangeSpec := { name := "weighProducts", fn := fun _ => fun
  | [d1, d2] => { results := [.lit (.bool true)], args := [d1, d2] }
  | _ => none }
def weighProductsRow : OpenClaim := { program := "ytamlfncglhoolaa", sum := "35ed9fa707496a44ddcbdefa85e5f9715935d4c6c464a5a371069564e97a90f8", func := "runnel/runnellaw06.WeighProducts", spec := "weighProducts", apart := false }
def WeighProductsSaid : Prop := weighProductsRow.holds Try.pinned (OpenSpec.ofChange weighProductsSpec)

/-- ITS FALSE NEIGHBOUR: 'it returns false'. Refute it at one input. -/
def weighProductsWrong : ChangeSpec := { name := "weighProducts", fn := fun _ => fun
  | [d1, d2] => { results := [.lit (.bool false)], args := [d1, d2] }
  | _ => none }
def WeighProductsWrongFalsely : Prop := weighProductsRow.holds Try.pinned (OpenSpec.ofChange weighProductsWrong)

/-- 'runnellaw14.WindowBuckets': WHATEVER THE INPUT: true; the input reads as it did. -/
def windowBucketsSpec : ChangeSpec := { name := "windowBuckets", fn := fun _ => fun
  | [d1, d2, d3] => { results := [.lit (.bool true)], args := [d1, d2, d3] }
  | _ => none }
def windowBucketsRow : OpenClaim := { program := "ytamlfncglhoolaa", sum := "35ed9fa707496a44ddcbdefa85e5f9715935d4c6c464a5a371069564e97a90f8", func := "runnel/runnellaw14.WindowBuckets", spec := "windowBuckets", apart := false }
def WindowBucketsSaid : Prop := windowBucketsRow.holds Try.pinned (OpenSpec.ofChange windowBucketsSpec)

/-- ITS FALSE NEIGHBOUR: 'it returns false'. Refute it at one input. -/
def windowBucketsWrong : ChangeSpec := { name := "windowBuckets", fn := fun _ => fun
  | [d1, d2, d3] => { results := [.lit (.bool false)], args := [d1, d2, d3] }
  | _ => none }
def WindowBucketsWrongFalsely : Prop := windowBucketsRow.holds Try.pinned (OpenSpec.ofChange windowBucketsWrong)

/-- 'runnellaw14.WindowHolds': WHATEVER THE INPUT: true; the input reads as it did. -/
def windowHoldsSpec : ChangeSpec := { name := "windowHolds", fn := fun _ => fun
  | [d1, d2, d3] => { results := [.lit (.bool true)], args := [d1, d2, d3] }
  | _ => none }
def windowHoldsRow : OpenClaim := { program := "ytamlfncglhoolaa", sum := "35ed9fa707496a44ddcbdefa85e5f9715935d4c6c464a5a371069564e97a90f8", func := "runnel/runnellaw14.WindowHolds", spec := "windowHolds", apart := false }
def WindowHoldsSaid : Prop := windowHoldsRow.holds Try.pinned (OpenSpec.ofChange windowHoldsSpec)

/-- ITS FALSE NEIGHBOUR: 'it returns false'. Refute it at one input. -/
def windowHoldsWrong : ChangeSpec := { name := "windowHolds", fn := fun _ => fun
  | [d1, d2, d3] => { results := [.lit (.bool false)], args := [d1, d2, d3] }
  | _ => none }
def WindowHoldsWrongFalsely : Prop := windowHoldsRow.holds Try.pinned (OpenSpec.ofChange windowHoldsWrong)

/-- 'runnellaw06.WeighBack': WHATEVER THE INPUT: true; the input reads as it did. -/
def weighBackSpec : ChangeSpec := { name := "weighBack", fn := fun _ => fun
  | [d1, d2] => { results := [.lit (.bool true)], args := [d1, d2] }
  | _ => none }
def weighBackRow : OpenClaim := { program := "ytamlfncglhoolaa", sum := "35ed9fa707496a44ddcbdefa85e5f9715935d4c6c464a5a371069564e97a90f8", func := "runnel/runnellaw06.WeighBack", spec := "weighBack", apart := false }
def WeighBackSaid : Prop := weighBackRow.holds Try.pinned (OpenSpec.ofChange weighBackSpec)

/-- ITS FALSE NEIGHBOUR: 'it returns false'. Refute it at one input. -/
def weighBackWrong : ChangeSpec := { name := "weighBack", fn := fun _ => fun
  | [d1, d2] => { results := [.lit (.bool false)], args := [d1, d2] }
  | _ => none }
def WeighBackWrongFalsely : Prop := weighBackRow.holds Try.pinned (OpenSpec.ofChange weighBackWrong)

/-- 'runnellaw06.WeighPairs': WHATEVER THE INPUT: true; the input reads as it did. -/
def weighPairsSpec : ChangeSpec := { name := "weighPairs", fn := fun _ => fun
  | [d1, d2] => { results := [.lit (.bool true)], args := [d1, d2] }
  | _ => none }
def weighPairsRow : OpenClaim := { program := "ytamlfncglhoolaa", sum := "35ed9fa707496a44ddcbdefa85e5f9715935d4c6c464a5a371069564e97a90f8", func := "runnel/runnellaw06.WeighPairs", spec := "weighPairs", apart := false }
def WeighPairsSaid : Prop := weighPairsRow.holds Try.pinned (OpenSpec.ofChange weighPairsSpec)

/-- ITS FALSE NEIGHBOUR: 'it returns false'. Refute it at one input. -/
def weighPairsWrong : ChangeSpec := { name := "weighPairs", fn := fun _ => fun
  | [d1, d2] => { results := [.lit (.bool false)], args := [d1, d2] }
  | _ => none }
def WeighPairsWrongFalsely : Prop := weighPairsRow.holds Try.pinned (OpenSpec.ofChange weighPairsWrong)

/-- 'runnellaw06.WeighSums': WHATEVER THE INPUT: true; the input reads as it did. -/
def weighSumsSpec : ChangeSpec := { name := "weighSums", fn := fun _ => fun
  | [d1, d2] => { results := [.lit (.bool true)], args := [d1, d2] }
  | _ => none }
def weighSumsRow : OpenClaim := { program := "ytamlfncglhoolaa", sum := "35ed9fa707496a44ddcbdefa85e5f9715935d4c6c464a5a371069564e97a90f8", func := "runnel/runnellaw06.WeighSums", spec := "weighSums", apart := false }
def WeighSumsSaid : Prop := weighSumsRow.holds Try.pinned (OpenSpec.ofChange weighSumsSpec)

/-- ITS FALSE NEIGHBOUR: 'it returns false'. Refute it at one input. -/
def weighSumsWrong : ChangeSpec := { name := "weighSums", fn := fun _ => fun
  | [d1, d2] => { results := [.lit (.bool false)], args := [d1, d2] }
  | _ => none }
def WeighSumsWrongFalsely : Prop := weighSumsRow.holds Try.pinned (OpenSpec.ofChange weighSumsWrong)

/-- 'runnellaw14.WindowAssigns': WHATEVER THE INPUT: true; the input reads as it did. -/
def windowAssignsSpec : ChangeSpec := { name := "windowAssigns", fn := fun _ => fun
  | [d1, d2, d3, d4] => { results := [.lit (.bool true)], args := [d1, d2, d3, d4] }
  | _ => none }
def windowAssignsRow : OpenClaim := { program := "ytamlfncglhoolaa", sum := "35ed9fa707496a44ddcbdefa85e5f9715935d4c6c464a5a371069564e97a90f8", func := "runnel/runnellaw14.WindowAssigns", spec := "windowAssigns", apart := false }
def WindowAssignsSaid : Prop := windowAssignsRow.holds Try.pinned (OpenSpec.ofChange windowAssignsSpec)

/-- ITS FALSE NEIGHBOUR: 'it returns false'. Refute it at one input. -/
def windowAssignsWrong : ChangeSpec := { name := "windowAssigns", fn := fun _ => fun
  | [d1, d2, d3, d4] => { results := [.lit (.bool false)], args := [d1, d2, d3, d4] }
  | _ => none }
def WindowAssignsWrongFalsely : Prop := windowAssignsRow.holds Try.pinned (OpenSpec.ofChange windowAssignsWrong)

/-- 'runnellaw08.ExprTypes': WHATEVER THE INPUT: true; the input reads as it did. -/
def exprTypesSpec : ChangeSpec := { name := "exprTypes", fn := fun _ => fun
  | [d1, d2] => { results := [.lit (.bool true)], args := [d1, d2] }
  | _ => none }
def exprTypesRow : OpenClaim := { program := "ytamlfncglhoolaa", sum := "35ed9fa707496a44ddcbdefa85e5f9715935d4c6c464a5a371069564e97a90f8", func := "runnel/runnellaw08.ExprTypes", spec := "exprTypes", unfollowed := true, recurses := true, apart := false }
def ExprTypesSaid : Prop := exprTypesRow.holds Try.pinned (OpenSpec.ofChange exprTypesSpec)

/-- ITS FALSE NEIGHBOUR: 'it returns false'. Refute it at one input. -/
def exprTypesWrong : ChangeSpec := { name := "exprTypes", fn := fun _ => fun
  | [d1, d2] => { results := [.lit (.bool false)], args := [d1, d2] }
  | _ => none }
def ExprTypesWrongFalsely : Prop := exprTypesRow.holds Try.pinned (OpenSpec.ofChange exprTypesWrong)

/-- 'runnellaw08.ExprLaws': WHATEVER THE INPUT: true; the input reads as it did. -/
def exprLawsSpec : ChangeSpec := { name := "exprLaws", fn := fun _ => fun
  | [d1, d2] => { results := [.lit (.bool true)], args := [d1, d2] }
  | _ => none }
def exprLawsRow : OpenClaim := { program := "ytamlfncglhoolaa", sum := "35ed9fa707496a44ddcbdefa85e5f9715935d4c6c464a5a371069564e97a90f8", func := "runnel/runnellaw08.ExprLaws", spec := "exprLaws", unfollowed := true, recurses := true, apart := false }
def ExprLawsSaid : Prop := exprLawsRow.holds Try.pinned (OpenSpec.ofChange exprLawsSpec)

/-- ITS FALSE NEIGHBOUR: 'it returns false'. Refute it at one input. -/
def exprLawsWrong : ChangeSpec := { name := "exprLaws", fn := fun _ => fun
  | [d1, d2] => { results := [.lit (.bool false)], args := [d1, d2] }
  | _ => none }
def ExprLawsWrongFalsely : Prop := exprLawsRow.holds Try.pinned (OpenSpec.ofChange exprLawsWrong)

/- THE SECOND FORM. 'bulk': how many values and letters a reading holds, each counted each time it is reached (what is shared counts as often as it is met; a slice's spare places count too). A statement '..UptoSaid' is the law's where the arguments, and the package variables that the reading takes, are together of bulk at most 1048576: NARROWER than '..Said'. Prove '..Said' where nothing that the law and all that it calls make is longer than what came in: it says more and counts as full. Else prove '..UptoSaid'. A law counts once. -/
mutual
def uptoBulk {H : Type} : DataW H → Nat
  | .lit (.string bytes) => bytes.length + 1
  | .lit _ => 1
  | .nil => 1
  | .ptr d => uptoBulk d + 1
  | .slice elems spare => uptoBulkAll elems + uptoBulkAll spare + 1
  | .agg parts => uptoBulkAll parts + 1
  | .iface _ d => uptoBulk d + 1
  | .map entries => uptoBulkEntries entries + 1
  | .held _ => 1
def uptoBulkAll {H : Type} : List (DataW H) → Nat
  | [] => 0
  | d :: r => uptoBulk d + uptoBulkAll r
def uptoBulkEntries {H : Type} : List (Lit × DataW H) → Nat
  | [] => 0
  | x :: r => uptoBulkEntry x + uptoBulkEntries r
def uptoBulkEntry {H : Type} : Lit × DataW H → Nat
  | (.string bytes, d) => bytes.length + uptoBulk d + 1
  | (_, d) => uptoBulk d + 1
 end
def uptoSmall : (H : Type) → List (DataW H) → Bool := fun _ ds => decide (uptoBulkAll ds ≤ 1048576)
def OpenSpec.upto (s : _root_.Go.ChangeSpec) : _root_.Go.OpenSpec := { _root_.Go.OpenSpec.ofChange s with cond := some uptoSmall }

/-- 'runnellaw06.WeighProducts', WHERE WHAT IT READS IS OF BULK AT MOST 1048576: true; the input reads as it did. -/
def weighProductsUptoRow : OpenClaim := { program := "ytamlfncglhoolaa", sum := "35ed9fa707496a44ddcbdefa85e5f9715935d4c6c464a5a371069564e97a90f8", func := "runnel/runnellaw06.WeighProducts", spec := "weighProducts", apart := false, narrowed := true }
def WeighProductsUptoSaid : Prop := weighProductsUptoRow.holds Try.pinned (OpenSpec.upto weighProductsSpec)

/-- 'runnellaw14.WindowBuckets', WHERE WHAT IT READS IS OF BULK AT MOST 1048576: true; the input reads as it did. -/
def windowBucketsUptoRow : OpenClaim := { program := "ytamlfncglhoolaa", sum := "35ed9fa707496a44ddcbdefa85e5f9715935d4c6c464a5a371069564e97a90f8", func := "runnel/runnellaw14.WindowBuckets", spec := "windowBuckets", apart := false, narrowed := true }
def WindowBucketsUptoSaid : Prop := windowBucketsUptoRow.holds Try.pinned (OpenSpec.upto windowBucketsSpec)

/-- 'runnellaw14.WindowHolds', WHERE WHAT IT READS IS OF BULK AT MOST 1048576: true; the input reads as it did. -/
def windowHoldsUptoRow : OpenClaim := { program := "ytamlfncglhoolaa", sum := "35ed9fa707496a44ddcbdefa85e5f9715935d4c6c464a5a371069564e97a90f8", func := "runnel/runnellaw14.WindowHolds", spec := "windowHolds", apart := false, narrowed := true }
def WindowHoldsUptoSaid : Prop := windowHoldsUptoRow.holds Try.pinned (OpenSpec.upto windowHoldsSpec)

/-- 'runnellaw06.WeighBack', WHERE WHAT IT READS IS OF BULK AT MOST 1048576: true; the input reads as it did. -/
def weighBackUptoRow : OpenClaim := { program := "ytamlfncglhoolaa", sum := "35ed9fa707496a44ddcbdefa85e5f9715935d4c6c464a5a371069564e97a90f8", func := "runnel/runnellaw06.WeighBack", spec := "weighBack", apart := false, narrowed := true }
def WeighBackUptoSaid : Prop := weighBackUptoRow.holds Try.pinned (OpenSpec.upto weighBackSpec)

/-- 'runnellaw06.WeighPairs', WHERE WHAT IT READS IS OF BULK AT MOST 1048576: true; the input reads as it did. -/
def weighPairsUptoRow : OpenClaim := { program := "ytamlfncglhoolaa", sum := "35ed9fa707496a44ddcbdefa85e5f9715935d4c6c464a5a371069564e97a90f8", func := "runnel/runnellaw06.WeighPairs", spec := "weighPairs", apart := false, narrowed := true }
def WeighPairsUptoSaid : Prop := weighPairsUptoRow.holds Try.pinned (OpenSpec.upto weighPairsSpec)

/-- 'runnellaw06.WeighSums', WHERE WHAT IT READS IS OF BULK AT MOST 1048576: true; the input reads as it did. -/
def weighSumsUptoRow : OpenClaim := { program := "ytamlfncglhoolaa", sum := "35ed9fa707496a44ddcbdefa85e5f9715935d4c6c464a5a371069564e97a90f8", func := "runnel/runnellaw06.WeighSums", spec := "weighSums", apart := false, narrowed := true }
def WeighSumsUptoSaid : Prop := weighSumsUptoRow.holds Try.pinned (OpenSpec.upto weighSumsSpec)

/-- 'runnellaw14.WindowAssigns', WHERE WHAT IT READS IS OF BULK AT MOST 1048576: true; the input reads as it did. -/
def windowAssignsUptoRow : OpenClaim := { program := "ytamlfncglhoolaa", sum := "35ed9fa707496a44ddcbdefa85e5f9715935d4c6c464a5a371069564e97a90f8", func := "runnel/runnellaw14.WindowAssigns", spec := "windowAssigns", apart := false, narrowed := true }
def WindowAssignsUptoSaid : Prop := windowAssignsUptoRow.holds Try.pinned (OpenSpec.upto windowAssignsSpec)

/-- 'runnellaw08.ExprTypes', WHERE WHAT IT READS IS OF BULK AT MOST 1048576: true; the input reads as it did. -/
def exprTypesUptoRow : OpenClaim := { program := "ytamlfncglhoolaa", sum := "35ed9fa707496a44ddcbdefa85e5f9715935d4c6c464a5a371069564e97a90f8", func := "runnel/runnellaw08.ExprTypes", spec := "exprTypes", unfollowed := true, recurses := true, apart := false, narrowed := true }
def ExprTypesUptoSaid : Prop := exprTypesUptoRow.holds Try.pinned (OpenSpec.upto exprTypesSpec)

/-- 'runnellaw08.ExprLaws', WHERE WHAT IT READS IS OF BULK AT MOST 1048576: true; the input reads as it did. -/
def exprLawsUptoRow : OpenClaim := { program := "ytamlfncglhoolaa", sum := "35ed9fa707496a44ddcbdefa85e5f9715935d4c6c464a5a371069564e97a90f8", func := "runnel/runnellaw08.ExprLaws", spec := "exprLaws", unfollowed := true, recurses := true, apart := false, narrowed := true }
def ExprLawsUptoSaid : Prop := exprLawsUptoRow.holds Try.pinned (OpenSpec.upto exprLawsSpec)

end Rows
end Go.Proofs.Ytamlfncglhoolaa
