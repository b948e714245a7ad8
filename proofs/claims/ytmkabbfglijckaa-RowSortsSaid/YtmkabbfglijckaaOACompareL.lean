/- The order of two tuples: slices.CompareFunc, order.Compare, the document's. -/
import Derived.Test.YtmkabbfglijckaaOACompare
import Derived.StillTailTactics
namespace Go.Proofs.Ytmkabbfglijckaa.A.O
open Go.RowKit Go.Proofs.YtmkabbfglijckaaW.PrintWords Go.Proofs.YtmkabbfglijckaaW.PrintLast Go.Proofs.YtmkabbfglijckaaW.PrintMore
set_option linter.unusedVariables false
set_option linter.unusedSimpArgs false

end Go.Proofs.Ytmkabbfglijckaa.A.O
