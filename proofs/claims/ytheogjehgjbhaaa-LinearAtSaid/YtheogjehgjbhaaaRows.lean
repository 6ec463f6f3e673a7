/-
  No cell of these rows narrows 'for every input' (looked for: loops, veiled, ifaces, maps, wideKeys, modest, calm, conditions, laid).
  DERIVED. THE GIVEN ROWS OF THIS SEAT. 8 by the template 'for every input the law returns true; each argument reads behind the call as it read before'; 0 by the template 'total and deterministic' (their statements: YtheogjehgjbhaaaTotals.lean).
  GIVEN WITH THE SEED: the statements are not yours to turn. If you find one false, say at which input.
  Laid BY PROGRAM, IN A SANDBOX (cutbox-rows.mjs): the forced cells as the released guide's own fill.sh prints them over the translation 4c2a3c85c91f8282… (all of the seat's roots in one cut). By AI agents, Wed Nov 11 2026. No macro, syntax, notation, axiom, sorry.
-/
import Derived.Test.YtheogjehgjbhaaaChecked
import GoSem.Claim
import GoSem.ClaimJoined
import GoSem.ClaimMapViews
import Derived.JoinedTies
import Derived.KernelRfl
namespace Go.Proofs.Ytheogjehgjbhaaa
/- THE CELL 'sum', in the pinned program and in every row, IS THE sha256 OF THE DUMP (.gsa) THAT YtheogjehgjbhaaaProg.lean LOADS. Nothing in Lean hashes anything: it is a label: what it is worth is what the hold of that sum in a sandbox is worth. -/
noncomputable def Try.pinned : Pinned := { name := "ytheogjehgjbhaaa", sum := "4c2a3c85c91f8282032c1c4023bffe10c150e4e8b113e07cdf7291ac424de349", checked := Try.checked }
namespace Rows
def none {H : Type} : Left H := { results := [], args := [] }

/-- 'runnellaw16.PlanChecks': WHATEVER THE INPUT: true; the input reads as it did. -/
def planChecksSpec : ChangeSpec := { name := "planChecks", fn := fun _ => fun
  | [d] => { results := [.lit (.bool true)], args := [d] }
  | _ => none }
def planChecksRow : OpenClaim := { program := "ytheogjehgjbhaaa", sum := "4c2a3c85c91f8282032c1c4023bffe10c150e4e8b113e07cdf7291ac424de349", func := "runnel/runnellaw16.PlanChecks", spec := "planChecks", unfollowed := true, recurses := true, apart := false }
def PlanChecksSaid : Prop := planChecksRow.holds Try.pinned (OpenSpec.ofChange planChecksSpec)

/-- ITS FALSE NEIGHBOUR: 'it returns false'. Refute it at one input. -/
def planChecksWrong : ChangeSpec := { name := "planChecks", fn := fun _ => fun
  | [d] => { results := [.lit (.bool false)], args := [d] }
  | _ => none }
def PlanChecksWrongFalsely : Prop := planChecksRow.holds Try.pinned (OpenSpec.ofChange planChecksWrong)

/-- 'runnellaw16.PlanOrders': WHATEVER THE INPUT: true; the input reads as it did. -/
def planOrdersSpec : ChangeSpec := { name := "planOrders", fn := fun _ => fun
  | [d] => { results := [.lit (.bool true)], args := [d] }
  | _ => none }
def planOrdersRow : OpenClaim := { program := "ytheogjehgjbhaaa", sum := "4c2a3c85c91f8282032c1c4023bffe10c150e4e8b113e07cdf7291ac424de349", func := "runnel/runnellaw16.PlanOrders", spec := "planOrders", unfollowed := true, recurses := true, apart := false }
def PlanOrdersSaid : Prop := planOrdersRow.holds Try.pinned (OpenSpec.ofChange planOrdersSpec)

/-- ITS FALSE NEIGHBOUR: 'it returns false'. Refute it at one input. -/
def planOrdersWrong : ChangeSpec := { name := "planOrders", fn := fun _ => fun
  | [d] => { results := [.lit (.bool false)], args := [d] }
  | _ => none }
def PlanOrdersWrongFalsely : Prop := planOrdersRow.holds Try.pinned (OpenSpec.ofChange planOrdersWrong)

/-- 'runnellaw16.PlanParts': WHATEVER THE INPUT: true; the input reads as it did. -/
def planPartsSpec : ChangeSpec := { name := "planParts", fn := fun _ => fun
  | [d1, d2] => { results := [.lit (.bool true)], args := [d1, d2] }
  | _ => none }
def planPartsRow : OpenClaim := { program := "ytheogjehgjbhaaa", sum := "4c2a3c85c91f8282032c1c4023bffe10c150e4e8b113e07cdf7291ac424de349", func := "runnel/runnellaw16.PlanParts", spec := "planParts", unfollowed := true, recurses := true, apart := false }
def PlanPartsSaid : Prop := planPartsRow.holds Try.pinned (OpenSpec.ofChange planPartsSpec)

/-- ITS FALSE NEIGHBOUR: 'it returns false'. Refute it at one input. -/
def planPartsWrong : ChangeSpec := { name := "planParts", fn := fun _ => fun
  | [d1, d2] => { results := [.lit (.bool false)], args := [d1, d2] }
  | _ => none }
def PlanPartsWrongFalsely : Prop := planPartsRow.holds Try.pinned (OpenSpec.ofChange planPartsWrong)

/-- 'runnellaw20.LinearAt': WHATEVER THE INPUT: true; the input reads as it did. -/
def linearAtSpec : ChangeSpec := { name := "linearAt", fn := fun _ => fun
  | [d1, d2, d3] => { results := [.lit (.bool true)], args := [d1, d2, d3] }
  | _ => none }
def linearAtRow : OpenClaim := { program := "ytheogjehgjbhaaa", sum := "4c2a3c85c91f8282032c1c4023bffe10c150e4e8b113e07cdf7291ac424de349", func := "runnel/runnellaw20.LinearAt", spec := "linearAt", unfollowed := true, recurses := true, apart := false }
def LinearAtSaid : Prop := linearAtRow.holds Try.pinned (OpenSpec.ofChange linearAtSpec)

/-- ITS FALSE NEIGHBOUR: 'it returns false'. Refute it at one input. -/
def linearAtWrong : ChangeSpec := { name := "linearAt", fn := fun _ => fun
  | [d1, d2, d3] => { results := [.lit (.bool false)], args := [d1, d2, d3] }
  | _ => none }
def LinearAtWrongFalsely : Prop := linearAtRow.holds Try.pinned (OpenSpec.ofChange linearAtWrong)

/-- 'runnellaw20.LinearDoes': WHATEVER THE INPUT: true; the input reads as it did. -/
def linearDoesSpec : ChangeSpec := { name := "linearDoes", fn := fun _ => fun
  | [d1, d2] => { results := [.lit (.bool true)], args := [d1, d2] }
  | _ => none }
def linearDoesRow : OpenClaim := { program := "ytheogjehgjbhaaa", sum := "4c2a3c85c91f8282032c1c4023bffe10c150e4e8b113e07cdf7291ac424de349", func := "runnel/runnellaw20.LinearDoes", spec := "linearDoes", unfollowed := true, recurses := true, apart := false }
def LinearDoesSaid : Prop := linearDoesRow.holds Try.pinned (OpenSpec.ofChange linearDoesSpec)

/-- ITS FALSE NEIGHBOUR: 'it returns false'. Refute it at one input. -/
def linearDoesWrong : ChangeSpec := { name := "linearDoes", fn := fun _ => fun
  | [d1, d2] => { results := [.lit (.bool false)], args := [d1, d2] }
  | _ => none }
def LinearDoesWrongFalsely : Prop := linearDoesRow.holds Try.pinned (OpenSpec.ofChange linearDoesWrong)

/-- 'runnellaw15.GroupMakes': WHATEVER THE INPUT: true; the input reads as it did. -/
def groupMakesSpec : ChangeSpec := { name := "groupMakes", fn := fun _ => fun
  | [d1, d2, d3, d4] => { results := [.lit (.bool true)], args := [d1, d2, d3, d4] }
  | _ => none }
def groupMakesRow : OpenClaim := { program := "ytheogjehgjbhaaa", sum := "4c2a3c85c91f8282032c1c4023bffe10c150e4e8b113e07cdf7291ac424de349", func := "runnel/runnellaw15.GroupMakes", spec := "groupMakes", unfollowed := true, recurses := true, apart := false }
def GroupMakesSaid : Prop := groupMakesRow.holds Try.pinned (OpenSpec.ofChange groupMakesSpec)

/-- ITS FALSE NEIGHBOUR: 'it returns false'. Refute it at one input. -/
def groupMakesWrong : ChangeSpec := { name := "groupMakes", fn := fun _ => fun
  | [d1, d2, d3, d4] => { results := [.lit (.bool false)], args := [d1, d2, d3, d4] }
  | _ => none }
def GroupMakesWrongFalsely : Prop := groupMakesRow.holds Try.pinned (OpenSpec.ofChange groupMakesWrong)

/-- 'runnellaw15.GroupParts': WHATEVER THE INPUT: true; the input reads as it did. -/
def groupPartsSpec : ChangeSpec := { name := "groupParts", fn := fun _ => fun
  | [d1, d2, d3, d4] => { results := [.lit (.bool true)], args := [d1, d2, d3, d4] }
  | _ => none }
def groupPartsRow : OpenClaim := { program := "ytheogjehgjbhaaa", sum := "4c2a3c85c91f8282032c1c4023bffe10c150e4e8b113e07cdf7291ac424de349", func := "runnel/runnellaw15.GroupParts", spec := "groupParts", unfollowed := true, recurses := true, apart := false }
def GroupPartsSaid : Prop := groupPartsRow.holds Try.pinned (OpenSpec.ofChange groupPartsSpec)

/-- ITS FALSE NEIGHBOUR: 'it returns false'. Refute it at one input. -/
def groupPartsWrong : ChangeSpec := { name := "groupParts", fn := fun _ => fun
  | [d1, d2, d3, d4] => { results := [.lit (.bool false)], args := [d1, d2, d3, d4] }
  | _ => none }
def GroupPartsWrongFalsely : Prop := groupPartsRow.holds Try.pinned (OpenSpec.ofChange groupPartsWrong)

/-- 'runnellaw15.GroupFits': WHATEVER THE INPUT: true; the input reads as it did. -/
def groupFitsSpec : ChangeSpec := { name := "groupFits", fn := fun _ => fun
  | [d1, d2, d3, d4, d5] => { results := [.lit (.bool true)], args := [d1, d2, d3, d4, d5] }
  | _ => none }
def groupFitsRow : OpenClaim := { program := "ytheogjehgjbhaaa", sum := "4c2a3c85c91f8282032c1c4023bffe10c150e4e8b113e07cdf7291ac424de349", func := "runnel/runnellaw15.GroupFits", spec := "groupFits", unfollowed := true, recurses := true, apart := false }
def GroupFitsSaid : Prop := groupFitsRow.holds Try.pinned (OpenSpec.ofChange groupFitsSpec)

/-- ITS FALSE NEIGHBOUR: 'it returns false'. Refute it at one input. -/
def groupFitsWrong : ChangeSpec := { name := "groupFits", fn := fun _ => fun
  | [d1, d2, d3, d4, d5] => { results := [.lit (.bool false)], args := [d1, d2, d3, d4, d5] }
  | _ => none }
def GroupFitsWrongFalsely : Prop := groupFitsRow.holds Try.pinned (OpenSpec.ofChange groupFitsWrong)

/- THE SECOND FORM. 'bulk': how many values and letters a reading holds, each counted each time it is reached (what is shared counts as often as it is met; a slice's spare places count too). A statement '..UptoSaid' is the law's where the arguments, and the package variables that the reading takes, are together of bulk at most 1048576: NARROWER than '..Said'. Prove '..Said' where nothing that the law and all that it calls make is longer than what came in: it says more and counts as full. Else prove '..UptoSaid'. A law counts once. -/
mutual
def uptoBulk {H : Type} : DataW H → Nat
  | .lit (.string bytes) => bytes.length + 1
  | .lit _ => 1
  | .nil => 1
  | .ptr d => uptoBulk d + 1
  | .slice elems spare => uptoBulkAll elems + uptoBulkAll spare + 1
  | .agg parts => uptoBulkAll parts + 1
  | .iface _ d => uptoBulk d + 1
  | .map entries => uptoBulkEntries entries + 1
  | .held _ => 1
def uptoBulkAll {H : Type} : List (DataW H) → Nat
  | [] => 0
  | d :: r => uptoBulk d + uptoBulkAll r
def uptoBulkEntries {H : Type} : List (Lit × DataW H) → Nat
  | [] => 0
  | x :: r => uptoBulkEntry x + uptoBulkEntries r
def uptoBulkEntry {H : Type} : Lit × DataW H → Nat
  | (.string bytes, d) => bytes.length + uptoBulk d + 1
  | (_, d) => uptoBulk d + 1
 end
def uptoSmall : (H : Type) → List (DataW H) → Bool := fun _ ds => decide (uptoBulkAll ds ≤ 1048576)
def OpenSpec.upto (s : _root_.Go.ChangeSpec) : _root_.Go.OpenSpec := { _root_.Go.OpenSpec.ofChange s with cond := some uptoSmall }

/-- 'runnellaw16.PlanChecks', WHERE WHAT IT READS IS OF BULK AT MOST 1048576: true; the input reads as it did. -/
def planChecksUptoRow : OpenClaim := { program := "ytheogjehgjbhaaa", sum := "4c2a3c85c91f8282032c1c4023bffe10c150e4e8b113e07cdf7291ac424de349", func := "runnel/runnellaw16.PlanChecks", spec := "planChecks", unfollowed := true, recurses := true, apart := false, narrowed := true }
def PlanChecksUptoSaid : Prop := planChecksUptoRow.holds Try.pinned (OpenSpec.upto planChecksSpec)

/-- 'runnellaw16.PlanOrders', WHERE WHAT IT READS IS OF BULK AT MOST 1048576: true; the input reads as it did. -/
def planOrdersUptoRow : OpenClaim := { program := "ytheogjehgjbhaaa", sum := "4c2a3c85c91f8282032c1c4023bffe10c150e4e8b113e07cdf7291ac424de349", func := "runnel/runnellaw16.PlanOrders", spec := "planOrders", unfollowed := true, recurses := true, apart := false, narrowed := true }
def PlanOrdersUptoSaid : Prop := planOrdersUptoRow.holds Try.pinned (OpenSpec.upto planOrdersSpec)

/-- 'runnellaw16.PlanParts', WHERE WHAT IT READS IS OF BULK AT MOST 1048576: true; the input reads as it did. -/
def planPartsUptoRow : OpenClaim := { program := "ytheogjehgjbhaaa", sum := "4c2a3c85c91f8282032c1c4023bffe10c150e4e8b113e07cdf7291ac424de349", func := "runnel/runnellaw16.PlanParts", spec := "planParts", unfollowed := true, recurses := true, apart := false, narrowed := true }
def PlanPartsUptoSaid : Prop := planPartsUptoRow.holds Try.pinned (OpenSpec.upto planPartsSpec)

/-- 'runnellaw20.LinearAt', WHERE WHAT IT READS IS OF BULK AT MOST 1048576: true; the input reads as it did. -/
def linearAtUptoRow : OpenClaim := { program := "ytheogjehgjbhaaa", sum := "4c2a3c85c91f8282032c1c4023bffe10c150e4e8b113e07cdf7291ac424de349", func := "runnel/runnellaw20.LinearAt", spec := "linearAt", unfollowed := true, recurses := true, apart := false, narrowed := true }
def LinearAtUptoSaid : Prop := linearAtUptoRow.holds Try.pinned (OpenSpec.upto linearAtSpec)

/-- 'runnellaw20.LinearDoes', WHERE WHAT IT READS IS OF BULK AT MOST 1048576: true; the input reads as it did. -/
def linearDoesUptoRow : OpenClaim := { program := "ytheogjehgjbhaaa", sum := "4c2a3c85c91f8282032c1c4023bffe10c150e4e8b113e07cdf7291ac424de349", func := "runnel/runnellaw20.LinearDoes", spec := "linearDoes", unfollowed := true, recurses := true, apart := false, narrowed := true }
def LinearDoesUptoSaid : Prop := linearDoesUptoRow.holds Try.pinned (OpenSpec.upto linearDoesSpec)

/-- 'runnellaw15.GroupMakes', WHERE WHAT IT READS IS OF BULK AT MOST 1048576: true; the input reads as it did. -/
def groupMakesUptoRow : OpenClaim := { program := "ytheogjehgjbhaaa", sum := "4c2a3c85c91f8282032c1c4023bffe10c150e4e8b113e07cdf7291ac424de349", func := "runnel/runnellaw15.GroupMakes", spec := "groupMakes", unfollowed := true, recurses := true, apart := false, narrowed := true }
def GroupMakesUptoSaid : Prop := groupMakesUptoRow.holds Try.pinned (OpenSpec.upto groupMakesSpec)

/-- 'runnellaw15.GroupParts', WHERE WHAT IT READS IS OF BULK AT MOST 1048576: true; the input reads as it did. -/
def groupPartsUptoRow : OpenClaim := { program := "ytheogjehgjbhaaa", sum := "4c2a3c85c91f8282032c1c4023bffe10c150e4e8b113e07cdf7291ac424de349", func := "runnel/runnellaw15.GroupParts", spec := "groupParts", unfollowed := true, recurses := true, apart := false, narrowed := true }
def GroupPartsUptoSaid : Prop := groupPartsUptoRow.holds Try.pinned (OpenSpec.upto groupPartsSpec)

/-- 'runnellaw15.GroupFits', WHERE WHAT IT READS IS OF BULK AT MOST 1048576: true; the input reads as it did. -/
def groupFitsUptoRow : OpenClaim := { program := "ytheogjehgjbhaaa", sum := "4c2a3c85c91f8282032c1c4023bffe10c150e4e8b113e07cdf7291ac424de349", func := "runnel/runnellaw15.GroupFits", spec := "groupFits", unfollowed := true, recurses := true, apart := false, narrowed := true }
def GroupFitsUptoSaid : Prop := groupFitsUptoRow.holds Try.pinned (OpenSpec.upto groupFitsSpec)

end Rows
end Go.Proofs.Ytheogjehgjbhaaa
