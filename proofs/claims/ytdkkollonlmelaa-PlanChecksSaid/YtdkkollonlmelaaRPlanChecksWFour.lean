-- Written by this session's own program (wip/tools/prune_decl.py): the words that law PlanChecks comes to
import Derived.Test.YtdkkollonlmelaaRPlanChecksWTab
namespace Go.Proofs.YtdkkollonlmelaaW.PrintLast
end Go.Proofs.YtdkkollonlmelaaW.PrintLast
