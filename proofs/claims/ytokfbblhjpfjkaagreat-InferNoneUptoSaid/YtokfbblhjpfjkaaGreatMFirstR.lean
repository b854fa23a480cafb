/- What a term is reduced to is right by term.Check, where nothing stops it. -/
import Derived.Test.YtokfbblhjpfjkaaGreatMInstC
import Derived.Test.YtokfbblhjpfjkaaGreatMFirstX
set_option linter.unusedSimpArgs false
set_option linter.unusedVariables false
namespace Go.Proofs.YtokfbblhjpfjkaaGreat
open Go.Aw Go.RowKit
end Go.Proofs.YtokfbblhjpfjkaaGreat
