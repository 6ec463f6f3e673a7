-- Written by this session's own program (wip/tools/prune_decl.py): the words that law ExprKinds comes to
import Derived.Test.YtmamkmolgbmmaaaRExprKindsWApart
import Derived.Test.YtmamkmolgbmmaaaRExprKindsWArr
namespace Go.Proofs.YtmamkmolgbmmaaaW.PrintWords
open Go.RowKit
namespace Kd
end Kd
end Go.Proofs.YtmamkmolgbmmaaaW.PrintWords
