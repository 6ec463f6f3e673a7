/-
  No cell of these rows narrows 'for every input' (looked for: loops, veiled, ifaces, maps, wideKeys, modest, calm, conditions, laid).
  DERIVED. THE GIVEN ROWS OF THIS SEAT. 9 by the template 'for every input the law returns true; each argument reads behind the call as it read before'; 0 by the template 'total and deterministic' (their statements: YtbccejopeclhmaaGreatTotals.lean).
  GIVEN WITH THE SEED: the statements are not yours to turn. If you find one false, say at which input.
  Laid BY PROGRAM, IN A SANDBOX (cutbox-rows.mjs): the forced cells as the released guide's own fill.sh prints them over the translation 9365aa500302352d… (all of the seat's roots in one cut). By AI agents, Wed Nov 11 2026. No macro, syntax, notation, axiom, sorry.
-/
import Derived.Test.YtbccejopeclhmaaGreatChecked
import GoSem.Claim
import GoSem.ClaimJoined
import GoSem.ClaimMapViews
import Derived.JoinedTies
import Derived.KernelRfl
namespace Go.Proofs.YtbccejopeclhmaaGreat
/- THE CELL 'sum', in the pinned program and in every row, IS THE sha256 OF THE DUMP (.gsa) THAT YtbccejopeclhmaaGreatProg.lean LOADS. Nothing in Lean hashes anything: it is a label: what it is worth is what the hold of that sum in a sandbox is worth. -/
noncomputable def Tryz.pinned : Pinned := { name := "ytbccejopeclhmaagreat", sum := "9365aa500302352d877021edbf0e3ef8799a720c841ce50a5789f6ca783b5e17", checked := Tryz.checked }
namespace Rows
def none {H : Type} : Left H := { results := [], args := [] }

/-- 'runnellaw18.DenoLinear': WHATEVER THE INPUT: true; the input reads as it did. -/
def denoLinearSpec : ChangeSpec := { name := "denoLinear", fn := fun _ => fun
  | [d1, d2, d3, d4] => { results := [.lit (.bool true)], args := [d1, d2, d3, d4] }
  | _ => none }
def denoLinearRow : OpenClaim := { program := "ytbccejopeclhmaagreat", sum := "9365aa500302352d877021edbf0e3ef8799a720c841ce50a5789f6ca783b5e17", func := "runnel/runnellaw18.DenoLinear", spec := "denoLinear", unfollowed := true, recurses := true, apart := false }
def DenoLinearSaid : Prop := denoLinearRow.holds Tryz.pinned (OpenSpec.ofChange denoLinearSpec)

/-- ITS FALSE NEIGHBOUR: 'it returns false'. Refute it at one input. -/
def denoLinearWrong : ChangeSpec := { name := "denoLinear", fn := fun _ => fun
  | [d1, d2, d3, d4] => { results := [.lit (.bool false)], args := [d1, d2, d3, d4] }
  | _ => none }
def DenoLinearWrongFalsely : Prop := denoLinearRow.holds Tryz.pinned (OpenSpec.ofChange denoLinearWrong)

/-- 'runnellaw18.DenoCounts': WHATEVER THE INPUT: true; the input reads as it did. -/
def denoCountsSpec : ChangeSpec := { name := "denoCounts", fn := fun _ => fun
  | [d1, d2] => { results := [.lit (.bool true)], args := [d1, d2] }
  | _ => none }
def denoCountsRow : OpenClaim := { program := "ytbccejopeclhmaagreat", sum := "9365aa500302352d877021edbf0e3ef8799a720c841ce50a5789f6ca783b5e17", func := "runnel/runnellaw18.DenoCounts", spec := "denoCounts", unfollowed := true, recurses := true, apart := false }
def DenoCountsSaid : Prop := denoCountsRow.holds Tryz.pinned (OpenSpec.ofChange denoCountsSpec)

/-- ITS FALSE NEIGHBOUR: 'it returns false'. Refute it at one input. -/
def denoCountsWrong : ChangeSpec := { name := "denoCounts", fn := fun _ => fun
  | [d1, d2] => { results := [.lit (.bool false)], args := [d1, d2] }
  | _ => none }
def DenoCountsWrongFalsely : Prop := denoCountsRow.holds Tryz.pinned (OpenSpec.ofChange denoCountsWrong)

/-- 'runnellaw18.DenoFits': WHATEVER THE INPUT: true; the input reads as it did. -/
def denoFitsSpec : ChangeSpec := { name := "denoFits", fn := fun _ => fun
  | [d1, d2] => { results := [.lit (.bool true)], args := [d1, d2] }
  | _ => none }
def denoFitsRow : OpenClaim := { program := "ytbccejopeclhmaagreat", sum := "9365aa500302352d877021edbf0e3ef8799a720c841ce50a5789f6ca783b5e17", func := "runnel/runnellaw18.DenoFits", spec := "denoFits", unfollowed := true, recurses := true, apart := false }
def DenoFitsSaid : Prop := denoFitsRow.holds Tryz.pinned (OpenSpec.ofChange denoFitsSpec)

/-- ITS FALSE NEIGHBOUR: 'it returns false'. Refute it at one input. -/
def denoFitsWrong : ChangeSpec := { name := "denoFits", fn := fun _ => fun
  | [d1, d2] => { results := [.lit (.bool false)], args := [d1, d2] }
  | _ => none }
def DenoFitsWrongFalsely : Prop := denoFitsRow.holds Tryz.pinned (OpenSpec.ofChange denoFitsWrong)

/-- 'runnellaw18.DenoAt': WHATEVER THE INPUT: true; the input reads as it did. -/
def denoAtSpec : ChangeSpec := { name := "denoAt", fn := fun _ => fun
  | [d1, d2, d3] => { results := [.lit (.bool true)], args := [d1, d2, d3] }
  | _ => none }
def denoAtRow : OpenClaim := { program := "ytbccejopeclhmaagreat", sum := "9365aa500302352d877021edbf0e3ef8799a720c841ce50a5789f6ca783b5e17", func := "runnel/runnellaw18.DenoAt", spec := "denoAt", unfollowed := true, recurses := true, apart := false }
def DenoAtSaid : Prop := denoAtRow.holds Tryz.pinned (OpenSpec.ofChange denoAtSpec)

/-- ITS FALSE NEIGHBOUR: 'it returns false'. Refute it at one input. -/
def denoAtWrong : ChangeSpec := { name := "denoAt", fn := fun _ => fun
  | [d1, d2, d3] => { results := [.lit (.bool false)], args := [d1, d2, d3] }
  | _ => none }
def DenoAtWrongFalsely : Prop := denoAtRow.holds Tryz.pinned (OpenSpec.ofChange denoAtWrong)

/-- 'runnellaw34.AuditCounts': WHATEVER THE INPUT: true; the input reads as it did. -/
def auditCountsSpec : ChangeSpec := { name := "auditCounts", fn := fun _ => fun
  | [d1, d2, d3, d4] => { results := [.lit (.bool true)], args := [d1, d2, d3, d4] }
  | _ => none }
def auditCountsRow : OpenClaim := { program := "ytbccejopeclhmaagreat", sum := "9365aa500302352d877021edbf0e3ef8799a720c841ce50a5789f6ca783b5e17", func := "runnel/runnellaw34.AuditCounts", spec := "auditCounts", unfollowed := true, recurses := true, apart := false }
def AuditCountsSaid : Prop := auditCountsRow.holds Tryz.pinned (OpenSpec.ofChange auditCountsSpec)

/-- ITS FALSE NEIGHBOUR: 'it returns false'. Refute it at one input. -/
def auditCountsWrong : ChangeSpec := { name := "auditCounts", fn := fun _ => fun
  | [d1, d2, d3, d4] => { results := [.lit (.bool false)], args := [d1, d2, d3, d4] }
  | _ => none }
def AuditCountsWrongFalsely : Prop := auditCountsRow.holds Tryz.pinned (OpenSpec.ofChange auditCountsWrong)

/-- 'runnellaw34.AuditWhat': WHATEVER THE INPUT: true; the input reads as it did. -/
def auditWhatSpec : ChangeSpec := { name := "auditWhat", fn := fun _ => fun
  | [d1, d2, d3, d4] => { results := [.lit (.bool true)], args := [d1, d2, d3, d4] }
  | _ => none }
def auditWhatRow : OpenClaim := { program := "ytbccejopeclhmaagreat", sum := "9365aa500302352d877021edbf0e3ef8799a720c841ce50a5789f6ca783b5e17", func := "runnel/runnellaw34.AuditWhat", spec := "auditWhat", unfollowed := true, recurses := true, apart := false }
def AuditWhatSaid : Prop := auditWhatRow.holds Tryz.pinned (OpenSpec.ofChange auditWhatSpec)

/-- ITS FALSE NEIGHBOUR: 'it returns false'. Refute it at one input. -/
def auditWhatWrong : ChangeSpec := { name := "auditWhat", fn := fun _ => fun
  | [d1, d2, d3, d4] => { results := [.lit (.bool false)], args := [d1, d2, d3, d4] }
  | _ => none }
def AuditWhatWrongFalsely : Prop := auditWhatRow.holds Tryz.pinned (OpenSpec.ofChange auditWhatWrong)

/-- 'runnellaw34.AuditSides': WHATEVER THE INPUT: true; the input reads as it did. -/
def auditSidesSpec : ChangeSpec := { name := "auditSides", fn := fun _ => fun
  | [d1, d2, d3, d4] => { results := [.lit (.bool true)], args := [d1, d2, d3, d4] }
  | _ => none }
def auditSidesRow : OpenClaim := { program := "ytbccejopeclhmaagreat", sum := "9365aa500302352d877021edbf0e3ef8799a720c841ce50a5789f6ca783b5e17", func := "runnel/runnellaw34.AuditSides", spec := "auditSides", unfollowed := true, recurses := true, apart := false }
def AuditSidesSaid : Prop := auditSidesRow.holds Tryz.pinned (OpenSpec.ofChange auditSidesSpec)

/-- ITS FALSE NEIGHBOUR: 'it returns false'. Refute it at one input. -/
def auditSidesWrong : ChangeSpec := { name := "auditSides", fn := fun _ => fun
  | [d1, d2, d3, d4] => { results := [.lit (.bool false)], args := [d1, d2, d3, d4] }
  | _ => none }
def AuditSidesWrongFalsely : Prop := auditSidesRow.holds Tryz.pinned (OpenSpec.ofChange auditSidesWrong)

/-- 'runnellaw34.AuditLinear': WHATEVER THE INPUT: true; the input reads as it did. -/
def auditLinearSpec : ChangeSpec := { name := "auditLinear", fn := fun _ => fun
  | [d1, d2, d3, d4] => { results := [.lit (.bool true)], args := [d1, d2, d3, d4] }
  | _ => none }
def auditLinearRow : OpenClaim := { program := "ytbccejopeclhmaagreat", sum := "9365aa500302352d877021edbf0e3ef8799a720c841ce50a5789f6ca783b5e17", func := "runnel/runnellaw34.AuditLinear", spec := "auditLinear", unfollowed := true, recurses := true, apart := false }
def AuditLinearSaid : Prop := auditLinearRow.holds Tryz.pinned (OpenSpec.ofChange auditLinearSpec)

/-- ITS FALSE NEIGHBOUR: 'it returns false'. Refute it at one input. -/
def auditLinearWrong : ChangeSpec := { name := "auditLinear", fn := fun _ => fun
  | [d1, d2, d3, d4] => { results := [.lit (.bool false)], args := [d1, d2, d3, d4] }
  | _ => none }
def AuditLinearWrongFalsely : Prop := auditLinearRow.holds Tryz.pinned (OpenSpec.ofChange auditLinearWrong)

/-- 'runnellaw34.AuditAgrees': WHATEVER THE INPUT: true; the input reads as it did. -/
def auditAgreesSpec : ChangeSpec := { name := "auditAgrees", fn := fun _ => fun
  | [d1, d2, d3] => { results := [.lit (.bool true)], args := [d1, d2, d3] }
  | _ => none }
def auditAgreesRow : OpenClaim := { program := "ytbccejopeclhmaagreat", sum := "9365aa500302352d877021edbf0e3ef8799a720c841ce50a5789f6ca783b5e17", func := "runnel/runnellaw34.AuditAgrees", spec := "auditAgrees", unfollowed := true, recurses := true, apart := false }
def AuditAgreesSaid : Prop := auditAgreesRow.holds Tryz.pinned (OpenSpec.ofChange auditAgreesSpec)

/-- ITS FALSE NEIGHBOUR: 'it returns false'. Refute it at one input. -/
def auditAgreesWrong : ChangeSpec := { name := "auditAgrees", fn := fun _ => fun
  | [d1, d2, d3] => { results := [.lit (.bool false)], args := [d1, d2, d3] }
  | _ => none }
def AuditAgreesWrongFalsely : Prop := auditAgreesRow.holds Tryz.pinned (OpenSpec.ofChange auditAgreesWrong)

/- THE SECOND FORM. 'bulk': how many values and letters a reading holds, each counted each time it is reached (what is shared counts as often as it is met; a slice's spare places count too). A statement '..UptoSaid' is the law's where the arguments, and the package variables that the reading takes, are together of bulk at most 1048576: NARROWER than '..Said'. Prove '..Said' where nothing that the law and all that it calls make is longer than what came in: it says more and counts as full. Else prove '..UptoSaid'. A law counts once. -/
mutual
def uptoBulk {H : Type} : DataW H → Nat
  | .lit (.string bytes) => bytes.length + 1
  | .lit _ => 1
  | .nil => 1
  | .ptr d => uptoBulk d + 1
  | .slice elems spare => uptoBulkAll elems + uptoBulkAll spare + 1
  | .agg parts => uptoBulkAll parts + 1
  | .iface _ d => uptoBulk d + 1
  | .map entries => uptoBulkEntries entries + 1
  | .held _ => 1
def uptoBulkAll {H : Type} : List (DataW H) → Nat
  | [] => 0
  | d :: r => uptoBulk d + uptoBulkAll r
def uptoBulkEntries {H : Type} : List (Lit × DataW H) → Nat
  | [] => 0
  | x :: r => uptoBulkEntry x + uptoBulkEntries r
def uptoBulkEntry {H : Type} : Lit × DataW H → Nat
  | (.string bytes, d) => bytes.length + uptoBulk d + 1
  | (_, d) => uptoBulk d + 1
 end
def uptoSmall : (H : Type) → List (DataW H) → Bool := fun _ ds => decide (uptoBulkAll ds ≤ 1048576)
def OpenSpec.upto (s : _root_.Go.ChangeSpec) : _root_.Go.OpenSpec := { _root_.Go.OpenSpec.ofChange s with cond := some uptoSmall }

/-- 'runnellaw18.DenoLinear', WHERE WHAT IT READS IS OF BULK AT MOST 1048576: true; the input reads as it did. -/
def denoLinearUptoRow : OpenClaim := { program := "ytbccejopeclhmaagreat", sum := "9365aa500302352d877021edbf0e3ef8799a720c841ce50a5789f6ca783b5e17", func := "runnel/runnellaw18.DenoLinear", spec := "denoLinear", unfollowed := true, recurses := true, apart := false, narrowed := true }
def DenoLinearUptoSaid : Prop := denoLinearUptoRow.holds Tryz.pinned (OpenSpec.upto denoLinearSpec)

/-- 'runnellaw18.DenoCounts', WHERE WHAT IT READS IS OF BULK AT MOST 1048576: true; the input reads as it did. -/
def denoCountsUptoRow : OpenClaim := { program := "ytbccejopeclhmaagreat", sum := "9365aa500302352d877021edbf0e3ef8799a720c841ce50a5789f6ca783b5e17", func := "runnel/runnellaw18.DenoCounts", spec := "denoCounts", unfollowed := true, recurses := true, apart := false, narrowed := true }
def DenoCountsUptoSaid : Prop := denoCountsUptoRow.holds Tryz.pinned (OpenSpec.upto denoCountsSpec)

/-- 'runnellaw18.DenoFits', WHERE WHAT IT READS IS OF BULK AT MOST 1048576: true; the input reads as it did. -/
def denoFitsUptoRow : OpenClaim := { program := "ytbccejopeclhmaagreat", sum := "9365aa500302352d877021edbf0e3ef8799a720c841ce50a5789f6ca783b5e17", func := "runnel/runnellaw18.DenoFits", spec := "denoFits", unfollowed := true, recurses := true, apart := false, narrowed := true }
def DenoFitsUptoSaid : Prop := denoFitsUptoRow.holds Tryz.pinned (OpenSpec.upto denoFitsSpec)

/-- 'runnellaw18.DenoAt', WHERE WHAT IT READS IS OF BULK AT MOST 1048576: true; the input reads as it did. -/
def denoAtUptoRow : OpenClaim := { program := "ytbccejopeclhmaagreat", sum := "9365aa500302352d877021edbf0e3ef8799a720c841ce50a5789f6ca783b5e17", func := "runnel/runnellaw18.DenoAt", spec := "denoAt", unfollowed := true, recurses := true, apart := false, narrowed := true }
def DenoAtUptoSaid : Prop := denoAtUptoRow.holds Tryz.pinned (OpenSpec.upto denoAtSpec)

/-- 'runnellaw34.AuditCounts', WHERE WHAT IT READS IS OF BULK AT MOST 1048576: true; the input reads as it did. -/
def auditCountsUptoRow : OpenClaim := { program := "ytbccejopeclhmaagreat", sum := "9365aa500302352d877021edbf0e3ef8799a720c841ce50a5789f6ca783b5e17", func := "runnel/runnellaw34.AuditCounts", spec := "auditCounts", unfollowed := true, recurses := true, apart := false, narrowed := true }
def AuditCountsUptoSaid : Prop := auditCountsUptoRow.holds Tryz.pinned (OpenSpec.upto auditCountsSpec)

/-- 'runnellaw34.AuditWhat', WHERE WHAT IT READS IS OF BULK AT MOST 1048576: true; the input reads as it did. -/
def auditWhatUptoRow : OpenClaim := { program := "ytbccejopeclhmaagreat", sum := "9365aa500302352d877021edbf0e3ef8799a720c841ce50a5789f6ca783b5e17", func := "runnel/runnellaw34.AuditWhat", spec := "auditWhat", unfollowed := true, recurses := true, apart := false, narrowed := true }
def AuditWhatUptoSaid : Prop := auditWhatUptoRow.holds Tryz.pinned (OpenSpec.upto auditWhatSpec)

/-- 'runnellaw34.AuditSides', WHERE WHAT IT READS IS OF BULK AT MOST 1048576: true; the input reads as it did. -/
def auditSidesUptoRow : OpenClaim := { program := "ytbccejopeclhmaagreat", sum := "9365aa500302352d877021edbf0e3ef8799a720c841ce50a5789f6ca783b5e17", func := "runnel/runnellaw34.AuditSides", spec := "auditSides", unfollowed := true, recurses := true, apart := false, narrowed := true }
def AuditSidesUptoSaid : Prop := auditSidesUptoRow.holds Tryz.pinned (OpenSpec.upto auditSidesSpec)

/-- 'runnellaw34.AuditLinear', WHERE WHAT IT READS IS OF BULK AT MOST 1048576: true; the input reads as it did. -/
def auditLinearUptoRow : OpenClaim := { program := "ytbccejopeclhmaagreat", sum := "9365aa500302352d877021edbf0e3ef8799a720c841ce50a5789f6ca783b5e17", func := "runnel/runnellaw34.AuditLinear", spec := "auditLinear", unfollowed := true, recurses := true, apart := false, narrowed := true }
def AuditLinearUptoSaid : Prop := auditLinearUptoRow.holds Tryz.pinned (OpenSpec.upto auditLinearSpec)

/-- 'runnellaw34.AuditAgrees', WHERE WHAT IT READS IS OF BULK AT MOST 1048576: true; the input reads as it did. -/
def auditAgreesUptoRow : OpenClaim := { program := "ytbccejopeclhmaagreat", sum := "9365aa500302352d877021edbf0e3ef8799a720c841ce50a5789f6ca783b5e17", func := "runnel/runnellaw34.AuditAgrees", spec := "auditAgrees", unfollowed := true, recurses := true, apart := false, narrowed := true }
def AuditAgreesUptoSaid : Prop := auditAgreesUptoRow.holds Tryz.pinned (OpenSpec.upto auditAgreesSpec)

end Rows
end Go.Proofs.YtbccejopeclhmaaGreat
