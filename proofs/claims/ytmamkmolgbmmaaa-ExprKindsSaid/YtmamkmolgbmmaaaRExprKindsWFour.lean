-- Written by this session's own program (wip/tools/prune_decl.py): the words that law ExprKinds comes to
import Derived.Test.YtmamkmolgbmmaaaRExprKindsWTab
namespace Go.Proofs.YtmamkmolgbmmaaaW.PrintLast
end Go.Proofs.YtmamkmolgbmmaaaW.PrintLast
