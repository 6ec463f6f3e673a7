-- Written by this session's own program (wip/tools/prune_decl.py): the words that law PlanChecks comes to
import Derived.Test.YtdkkollonlmelaaRPlanChecksWInv
import Derived.Test.YtdkkollonlmelaaRPlanChecksWFootNe
namespace Go.Proofs.YtdkkollonlmelaaW.PrintWords
open Go.RowKit
end Go.Proofs.YtdkkollonlmelaaW.PrintWords
namespace Go.Proofs.YtdkkollonlmelaaW.PrintLast
end Go.Proofs.YtdkkollonlmelaaW.PrintLast
