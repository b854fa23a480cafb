/- What is done in a part is done in the whole. -/
import Derived.Test.YtoknnfhgoikpiaaGreatLPartsL
import Derived.Test.YtoknnfhgoikpiaaGreatGJ
import Derived.Test.YtoknnfhgoikpiaaGreatLAts
import Derived.Test.YtoknnfhgoikpiaaGreatGH
namespace Go.Proofs.YtoknnfhgoikpiaaGreat
set_option linter.unusedSimpArgs false
set_option linter.unusedVariables false
open Go.Aw Go.RowKit
def zu5:List (Nat×List Nat):=[(0,[]),(1,[]),(2,[]),(3,[]),(4,[2,3]),(5,[]),(6,[2,3,4,5]),(7,[0,1,2,3,4,5,6]),(8,[0,1,2,3,4,5,6,7]),(9,[0,1,2,3,4,5,6,7,8]),(10,[0,1,2,3,4,5,6,7,8]),(11,[]),(12,[0,1,2,3,4,5,6,7,8,9,11]),(13,[0,1,2,3,4,5,6,7,8,9,10,11,12])]
attribute [local irreducible] WL AC WD WE MStep OkOp
theorem zj0{chk:Int}{lk:Tm→Option (Tm×Int)}{t:Tm}{p:List Int}:(doR chk lk t p).1.size≤6000:=by
 have hz:zT.size=1:=rfl
 unfold doR
 split
 ·simp only;omega
 ·split
  ·simp only;omega
  ·split
   ·simp only;omega
   ·exact zjY _ _ _
end Go.Proofs.YtoknnfhgoikpiaaGreat
