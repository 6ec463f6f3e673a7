-- Written by this session's own program (wip/tools/prune_decl.py): the words that law PlanOrders comes to
import Derived.Test.YtdkkollonlmelaaRPlanOrdersWInv
import Derived.Test.YtdkkollonlmelaaRPlanOrdersWFootNe
namespace Go.Proofs.YtdkkollonlmelaaW.PrintWords
open Go.RowKit
end Go.Proofs.YtdkkollonlmelaaW.PrintWords
namespace Go.Proofs.YtdkkollonlmelaaW.PrintLast
end Go.Proofs.YtdkkollonlmelaaW.PrintLast
