-- Written by this session's own program (wip/tools/prune_decl.py): the words that law ExprKinds comes to
import Derived.Test.YtmamkmolgbmmaaaRExprKindsWTab
namespace Go.Proofs.YtmamkmolgbmmaaaW.PrintLast
/-- Number i is listed too. -/
def up (b : Nat → Bool) (i : Nat) : Nat → Bool := fun j => if j = i then true else b j
end Go.Proofs.YtmamkmolgbmmaaaW.PrintLast
