-- Written by this session's own program (wip/tools/prune_decl.py): the words that law PlanOrders comes to
import Derived.Test.YtdkkollonlmelaaRPlanOrdersWTab
namespace Go.Proofs.YtdkkollonlmelaaW.PrintLast
end Go.Proofs.YtdkkollonlmelaaW.PrintLast
