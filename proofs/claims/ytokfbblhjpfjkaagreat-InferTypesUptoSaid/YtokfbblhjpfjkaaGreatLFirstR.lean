/- What a term is reduced to is right by term.Check, where nothing stops it. -/
import Derived.Test.YtokfbblhjpfjkaaGreatLInstC
import Derived.Test.YtokfbblhjpfjkaaGreatLFirstX
set_option linter.unusedSimpArgs false
set_option linter.unusedVariables false
namespace Go.Proofs.YtokfbblhjpfjkaaGreat
open Go.Aw Go.RowKit
end Go.Proofs.YtokfbblhjpfjkaaGreat
