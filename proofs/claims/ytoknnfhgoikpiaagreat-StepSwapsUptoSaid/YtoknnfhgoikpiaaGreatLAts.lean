/- What stands at a place, and at a place in that; what is put there. -/
import Derived.Test.YtoknnfhgoikpiaaGreatGF
import Derived.Test.YtoknnfhgoikpiaaGreatGB
namespace Go.Proofs.YtoknnfhgoikpiaaGreat
set_option linter.unusedSimpArgs false
set_option linter.unusedVariables false
open Go.Aw Go.RowKit
attribute [local irreducible] WL AC WD WE MStep OkOp
theorem zwA{t u:Tm}{p:List Int}:(putR t p u).1.size≤6000:=by
 have hz:zT.size=1:=rfl
 unfold putR
 split
 ·simp only;omega
 ·split
  ·simp only;omega
  ·split
   ·exact zm2 _
   ·simp only;omega
end Go.Proofs.YtoknnfhgoikpiaaGreat
