-- Written by this session's own program (wip/tools/prune_decl.py): the words that law PlanParts comes to
import Derived.Test.YtdkkollonlmelaaRPlanPartsWTab
namespace Go.Proofs.YtdkkollonlmelaaW.PrintLast
end Go.Proofs.YtdkkollonlmelaaW.PrintLast
