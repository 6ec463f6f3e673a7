-- Written by this session's own program (wip/tools/prune_decl.py): the words that law PlanChecks comes to
import Derived.Test.YtdkkollonlmelaaRPlanChecksWWords
import Derived.Laws.StructEq
namespace Go.Proofs.YtdkkollonlmelaaW.PrintWords
open Go.RowKit
end Go.Proofs.YtdkkollonlmelaaW.PrintWords
