-- Written by this session's own program (wip/tools/prune_decl.py): the words that law ExprKinds comes to
import Derived.Test.YtmamkmolgbmmaaaRExprKindsWInv
import Derived.Test.YtmamkmolgbmmaaaRExprKindsWFootNe
namespace Go.Proofs.YtmamkmolgbmmaaaW.PrintWords
open Go.RowKit
end Go.Proofs.YtmamkmolgbmmaaaW.PrintWords
namespace Go.Proofs.YtmamkmolgbmmaaaW.PrintLast
end Go.Proofs.YtmamkmolgbmmaaaW.PrintLast
