-- Written by this session's own program (wip/tools/prune_decl.py): the words that law PlanChecks comes to
import Derived.Test.YtdkkollonlmelaaRPlanChecksWLast
import Derived.Test.YtdkkollonlmelaaRPlanChecksWWords
namespace Go.Proofs.YtdkkollonlmelaaW.PrintLast
open Go.Proofs.YtdkkollonlmelaaW.PrintWords (Aside0)
section
variable {md : Region.Mode} {ops : Array Oper} {T : Bool × List (List Nat × List Nat)} {l l' li lj lk : Array Bool} {ds : List Nat} {i j k : Nat}
theorem gd (l : Array Bool) (j : Nat) (b : Bool) : l.getD j b = l.toList.getD j b := by simp [Array.getD_eq_getD_getElem?, List.getD_eq_getElem?_getD]
end
end Go.Proofs.YtdkkollonlmelaaW.PrintLast
