import Derived.Test.YtbccejopeclhmaaGreatF1
namespace Go.V
open Go Go.RowKit Go.Proofs
set_option maxRecDepth 100000
set_option linter.unusedVariables false
set_option linter.unusedSimpArgs false

end Go.V
