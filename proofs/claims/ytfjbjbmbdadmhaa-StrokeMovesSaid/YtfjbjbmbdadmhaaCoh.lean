/- printworkskeep1.ConicWithinHull, by the evaluation. -/
import Derived.Test.YtfjbjbmbdadmhaaCop
set_option linter.unusedSimpArgs false
set_option linter.unusedVariables false
namespace Go.Proofs.Ytfjbjbmbdadmhaa.Coh
open Go.RowKit Sx Num Aff Con Cop
set_option maxRecDepth 100000
end Go.Proofs.Ytfjbjbmbdadmhaa.Coh
