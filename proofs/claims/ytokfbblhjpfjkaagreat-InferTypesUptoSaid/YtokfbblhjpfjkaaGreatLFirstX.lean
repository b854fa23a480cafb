/- Is nothing reduced at a term's places (ahead of one)? -/
import Derived.Test.YtokfbblhjpfjkaaGreatLFirstW
set_option linter.unusedSimpArgs false
set_option linter.unusedVariables false
namespace Go.Proofs.YtokfbblhjpfjkaaGreat
open Go.Aw Go.RowKit
attribute [local irreducible] WL AC WD WE MStep OkOp
attribute [local irreducible] zfd zvN
end Go.Proofs.YtokfbblhjpfjkaaGreat
