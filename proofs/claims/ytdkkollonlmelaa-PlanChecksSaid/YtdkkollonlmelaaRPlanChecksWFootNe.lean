-- Written by this session's own program (wip/tools/prune_decl.py): the words that law PlanChecks comes to
import Derived.Test.YtdkkollonlmelaaRPlanChecksWN
namespace Go.Proofs.YtdkkollonlmelaaW.PrintWords
open Go.RowKit
namespace Kd
end Kd
end Go.Proofs.YtdkkollonlmelaaW.PrintWords
