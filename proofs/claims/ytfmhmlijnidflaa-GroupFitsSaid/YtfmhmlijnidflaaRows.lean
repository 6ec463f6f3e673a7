/-
  No cell of these rows narrows 'for every input' (looked for: loops, veiled, ifaces, maps, wideKeys, modest, calm, conditions, laid).
  DERIVED. THE GIVEN ROWS OF THIS SEAT. 6 by the template 'for every input the law returns true; each argument reads behind the call as it read before'; 0 by the template 'total and deterministic' (their statements: YtfmhmlijnidflaaTotals.lean).
  GIVEN WITH THE SEED: the statements are not yours to turn. If you find one false, say at which input.
  Laid BY PROGRAM, IN A SANDBOX (cutbox-rows.mjs): the forced cells as the released guide's own fill.sh prints them over the translation 24a76d5825f13304… (all of the seat's roots in one cut). By AI agents, Wed Nov 11 2026. No macro, syntax, notation, axiom, sorry.
-/
import Derived.Test.YtfmhmlijnidflaaChecked
import GoSem.Claim
import GoSem.ClaimJoined
import GoSem.ClaimMapViews
import Derived.JoinedTies
import Derived.KernelRfl
namespace Go.Proofs.Ytfmhmlijnidflaa
/- THE CELL 'sum', in the pinned program and in every row, IS THE sha256 OF THE DUMP (.gsa) THAT YtfmhmlijnidflaaProg.lean LOADS. Nothing in Lean hashes anything: it is a label: what it is worth is what the hold of that sum in a sandbox is worth. -/
noncomputable def Try.pinned : Pinned := { name := "ytfmhmlijnidflaa", sum := "24a76d5825f133041e8a27ed3eb3258bc88698973a24d48b75342c96e8bcc2cd", checked := Try.checked }
namespace Rows
def none {H : Type} : Left H := { results := [], args := [] }

/-- 'runnellaw20.LinearDoes': WHATEVER THE INPUT: true; the input reads as it did. -/
def linearDoesSpec : ChangeSpec := { name := "linearDoes", fn := fun _ => fun
  | [d1, d2] => { results := [.lit (.bool true)], args := [d1, d2] }
  | _ => none }
def linearDoesRow : OpenClaim := { program := "ytfmhmlijnidflaa", sum := "24a76d5825f133041e8a27ed3eb3258bc88698973a24d48b75342c96e8bcc2cd", func := "runnel/runnellaw20.LinearDoes", spec := "linearDoes", unfollowed := true, recurses := true, apart := false }
def LinearDoesSaid : Prop := linearDoesRow.holds Try.pinned (OpenSpec.ofChange linearDoesSpec)

/-- ITS FALSE NEIGHBOUR: 'it returns false'. Refute it at one input. -/
def linearDoesWrong : ChangeSpec := { name := "linearDoes", fn := fun _ => fun
  | [d1, d2] => { results := [.lit (.bool false)], args := [d1, d2] }
  | _ => none }
def LinearDoesWrongFalsely : Prop := linearDoesRow.holds Try.pinned (OpenSpec.ofChange linearDoesWrong)

/-- 'runnellaw15.GroupMakes': WHATEVER THE INPUT: true; the input reads as it did. -/
def groupMakesSpec : ChangeSpec := { name := "groupMakes", fn := fun _ => fun
  | [d1, d2, d3, d4] => { results := [.lit (.bool true)], args := [d1, d2, d3, d4] }
  | _ => none }
def groupMakesRow : OpenClaim := { program := "ytfmhmlijnidflaa", sum := "24a76d5825f133041e8a27ed3eb3258bc88698973a24d48b75342c96e8bcc2cd", func := "runnel/runnellaw15.GroupMakes", spec := "groupMakes", unfollowed := true, recurses := true, apart := false }
def GroupMakesSaid : Prop := groupMakesRow.holds Try.pinned (OpenSpec.ofChange groupMakesSpec)

/-- ITS FALSE NEIGHBOUR: 'it returns false'. Refute it at one input. -/
def groupMakesWrong : ChangeSpec := { name := "groupMakes", fn := fun _ => fun
  | [d1, d2, d3, d4] => { results := [.lit (.bool false)], args := [d1, d2, d3, d4] }
  | _ => none }
def GroupMakesWrongFalsely : Prop := groupMakesRow.holds Try.pinned (OpenSpec.ofChange groupMakesWrong)

/-- 'runnellaw15.GroupParts': WHATEVER THE INPUT: true; the input reads as it did. -/
def groupPartsSpec : ChangeSpec := { name := "groupParts", fn := fun _ => fun
  | [d1, d2, d3, d4] => { results := [.lit (.bool true)], args := [d1, d2, d3, d4] }
  | _ => none }
def groupPartsRow : OpenClaim := { program := "ytfmhmlijnidflaa", sum := "24a76d5825f133041e8a27ed3eb3258bc88698973a24d48b75342c96e8bcc2cd", func := "runnel/runnellaw15.GroupParts", spec := "groupParts", unfollowed := true, recurses := true, apart := false }
def GroupPartsSaid : Prop := groupPartsRow.holds Try.pinned (OpenSpec.ofChange groupPartsSpec)

/-- ITS FALSE NEIGHBOUR: 'it returns false'. Refute it at one input. -/
def groupPartsWrong : ChangeSpec := { name := "groupParts", fn := fun _ => fun
  | [d1, d2, d3, d4] => { results := [.lit (.bool false)], args := [d1, d2, d3, d4] }
  | _ => none }
def GroupPartsWrongFalsely : Prop := groupPartsRow.holds Try.pinned (OpenSpec.ofChange groupPartsWrong)

/-- 'runnellaw15.GroupFits': WHATEVER THE INPUT: true; the input reads as it did. -/
def groupFitsSpec : ChangeSpec := { name := "groupFits", fn := fun _ => fun
  | [d1, d2, d3, d4, d5] => { results := [.lit (.bool true)], args := [d1, d2, d3, d4, d5] }
  | _ => none }
def groupFitsRow : OpenClaim := { program := "ytfmhmlijnidflaa", sum := "24a76d5825f133041e8a27ed3eb3258bc88698973a24d48b75342c96e8bcc2cd", func := "runnel/runnellaw15.GroupFits", spec := "groupFits", unfollowed := true, recurses := true, apart := false }
def GroupFitsSaid : Prop := groupFitsRow.holds Try.pinned (OpenSpec.ofChange groupFitsSpec)

/-- ITS FALSE NEIGHBOUR: 'it returns false'. Refute it at one input. -/
def groupFitsWrong : ChangeSpec := { name := "groupFits", fn := fun _ => fun
  | [d1, d2, d3, d4, d5] => { results := [.lit (.bool false)], args := [d1, d2, d3, d4, d5] }
  | _ => none }
def GroupFitsWrongFalsely : Prop := groupFitsRow.holds Try.pinned (OpenSpec.ofChange groupFitsWrong)

/-- 'runnellaw31.TuneStays': WHATEVER THE INPUT: true; the input reads as it did. -/
def tuneStaysSpec : ChangeSpec := { name := "tuneStays", fn := fun _ => fun
  | [d] => { results := [.lit (.bool true)], args := [d] }
  | _ => none }
def tuneStaysRow : OpenClaim := { program := "ytfmhmlijnidflaa", sum := "24a76d5825f133041e8a27ed3eb3258bc88698973a24d48b75342c96e8bcc2cd", func := "runnel/runnellaw31.TuneStays", spec := "tuneStays", unfollowed := true, recurses := true, apart := false }
def TuneStaysSaid : Prop := tuneStaysRow.holds Try.pinned (OpenSpec.ofChange tuneStaysSpec)

/-- ITS FALSE NEIGHBOUR: 'it returns false'. Refute it at one input. -/
def tuneStaysWrong : ChangeSpec := { name := "tuneStays", fn := fun _ => fun
  | [d] => { results := [.lit (.bool false)], args := [d] }
  | _ => none }
def TuneStaysWrongFalsely : Prop := tuneStaysRow.holds Try.pinned (OpenSpec.ofChange tuneStaysWrong)

/-- 'runnellaw31.TuneValues': WHATEVER THE INPUT: true; the input reads as it did. -/
def tuneValuesSpec : ChangeSpec := { name := "tuneValues", fn := fun _ => fun
  | [d1, d2, d3] => { results := [.lit (.bool true)], args := [d1, d2, d3] }
  | _ => none }
def tuneValuesRow : OpenClaim := { program := "ytfmhmlijnidflaa", sum := "24a76d5825f133041e8a27ed3eb3258bc88698973a24d48b75342c96e8bcc2cd", func := "runnel/runnellaw31.TuneValues", spec := "tuneValues", unfollowed := true, recurses := true, apart := false }
def TuneValuesSaid : Prop := tuneValuesRow.holds Try.pinned (OpenSpec.ofChange tuneValuesSpec)

/-- ITS FALSE NEIGHBOUR: 'it returns false'. Refute it at one input. -/
def tuneValuesWrong : ChangeSpec := { name := "tuneValues", fn := fun _ => fun
  | [d1, d2, d3] => { results := [.lit (.bool false)], args := [d1, d2, d3] }
  | _ => none }
def TuneValuesWrongFalsely : Prop := tuneValuesRow.holds Try.pinned (OpenSpec.ofChange tuneValuesWrong)

/- THE SECOND FORM. 'bulk': how many values and letters a reading holds, each counted each time it is reached (what is shared counts as often as it is met; a slice's spare places count too). A statement '..UptoSaid' is the law's where the arguments, and the package variables that the reading takes, are together of bulk at most 1048576: NARROWER than '..Said'. Prove '..Said' where nothing that the law and all that it calls make is longer than what came in: it says more and counts as full. Else prove '..UptoSaid'. A law counts once. -/
mutual
def uptoBulk {H : Type} : DataW H → Nat
  | .lit (.string bytes) => bytes.length + 1
  | .lit _ => 1
  | .nil => 1
  | .ptr d => uptoBulk d + 1
  | .slice elems spare => uptoBulkAll elems + uptoBulkAll spare + 1
  | .agg parts => uptoBulkAll parts + 1
  | .iface _ d => uptoBulk d + 1
  | .map entries => uptoBulkEntries entries + 1
  | .held _ => 1
def uptoBulkAll {H : Type} : List (DataW H) → Nat
  | [] => 0
  | d :: r => uptoBulk d + uptoBulkAll r
def uptoBulkEntries {H : Type} : List (Lit × DataW H) → Nat
  | [] => 0
  | x :: r => uptoBulkEntry x + uptoBulkEntries r
def uptoBulkEntry {H : Type} : Lit × DataW H → Nat
  | (.string bytes, d) => bytes.length + uptoBulk d + 1
  | (_, d) => uptoBulk d + 1
 end
def uptoSmall : (H : Type) → List (DataW H) → Bool := fun _ ds => decide (uptoBulkAll ds ≤ 1048576)
def OpenSpec.upto (s : _root_.Go.ChangeSpec) : _root_.Go.OpenSpec := { _root_.Go.OpenSpec.ofChange s with cond := some uptoSmall }

/-- 'runnellaw20.LinearDoes', WHERE WHAT IT READS IS OF BULK AT MOST 1048576: true; the input reads as it did. -/
def linearDoesUptoRow : OpenClaim := { program := "ytfmhmlijnidflaa", sum := "24a76d5825f133041e8a27ed3eb3258bc88698973a24d48b75342c96e8bcc2cd", func := "runnel/runnellaw20.LinearDoes", spec := "linearDoes", unfollowed := true, recurses := true, apart := false, narrowed := true }
def LinearDoesUptoSaid : Prop := linearDoesUptoRow.holds Try.pinned (OpenSpec.upto linearDoesSpec)

/-- 'runnellaw15.GroupMakes', WHERE WHAT IT READS IS OF BULK AT MOST 1048576: true; the input reads as it did. -/
def groupMakesUptoRow : OpenClaim := { program := "ytfmhmlijnidflaa", sum := "24a76d5825f133041e8a27ed3eb3258bc88698973a24d48b75342c96e8bcc2cd", func := "runnel/runnellaw15.GroupMakes", spec := "groupMakes", unfollowed := true, recurses := true, apart := false, narrowed := true }
def GroupMakesUptoSaid : Prop := groupMakesUptoRow.holds Try.pinned (OpenSpec.upto groupMakesSpec)

/-- 'runnellaw15.GroupParts', WHERE WHAT IT READS IS OF BULK AT MOST 1048576: true; the input reads as it did. -/
def groupPartsUptoRow : OpenClaim := { program := "ytfmhmlijnidflaa", sum := "24a76d5825f133041e8a27ed3eb3258bc88698973a24d48b75342c96e8bcc2cd", func := "runnel/runnellaw15.GroupParts", spec := "groupParts", unfollowed := true, recurses := true, apart := false, narrowed := true }
def GroupPartsUptoSaid : Prop := groupPartsUptoRow.holds Try.pinned (OpenSpec.upto groupPartsSpec)

/-- 'runnellaw15.GroupFits', WHERE WHAT IT READS IS OF BULK AT MOST 1048576: true; the input reads as it did. -/
def groupFitsUptoRow : OpenClaim := { program := "ytfmhmlijnidflaa", sum := "24a76d5825f133041e8a27ed3eb3258bc88698973a24d48b75342c96e8bcc2cd", func := "runnel/runnellaw15.GroupFits", spec := "groupFits", unfollowed := true, recurses := true, apart := false, narrowed := true }
def GroupFitsUptoSaid : Prop := groupFitsUptoRow.holds Try.pinned (OpenSpec.upto groupFitsSpec)

/-- 'runnellaw31.TuneStays', WHERE WHAT IT READS IS OF BULK AT MOST 1048576: true; the input reads as it did. -/
def tuneStaysUptoRow : OpenClaim := { program := "ytfmhmlijnidflaa", sum := "24a76d5825f133041e8a27ed3eb3258bc88698973a24d48b75342c96e8bcc2cd", func := "runnel/runnellaw31.TuneStays", spec := "tuneStays", unfollowed := true, recurses := true, apart := false, narrowed := true }
def TuneStaysUptoSaid : Prop := tuneStaysUptoRow.holds Try.pinned (OpenSpec.upto tuneStaysSpec)

/-- 'runnellaw31.TuneValues', WHERE WHAT IT READS IS OF BULK AT MOST 1048576: true; the input reads as it did. -/
def tuneValuesUptoRow : OpenClaim := { program := "ytfmhmlijnidflaa", sum := "24a76d5825f133041e8a27ed3eb3258bc88698973a24d48b75342c96e8bcc2cd", func := "runnel/runnellaw31.TuneValues", spec := "tuneValues", unfollowed := true, recurses := true, apart := false, narrowed := true }
def TuneValuesUptoSaid : Prop := tuneValuesUptoRow.holds Try.pinned (OpenSpec.upto tuneValuesSpec)

end Rows
end Go.Proofs.Ytfmhmlijnidflaa
