-- Written by this session's own program (wip/tools/prune_decl.py): the words that law PlanOrders comes to
import Derived.Test.YtdkkollonlmelaaRPlanOrdersWWords
import Derived.Laws.StructEq
namespace Go.Proofs.YtdkkollonlmelaaW.PrintWords
open Go.RowKit
end Go.Proofs.YtdkkollonlmelaaW.PrintWords
