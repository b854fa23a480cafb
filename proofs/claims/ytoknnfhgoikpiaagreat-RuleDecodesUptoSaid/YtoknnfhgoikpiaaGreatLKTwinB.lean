/- Arguments, constructors, blocks, entries are told anew by the document's side: t -/
import Derived.Test.YtoknnfhgoikpiaaGreatGK
import Derived.Test.YtoknnfhgoikpiaaGreatGG
import Derived.Test.YtoknnfhgoikpiaaGreatGC
import Derived.Test.YtoknnfhgoikpiaaGreatGB
namespace Go.Proofs.YtoknnfhgoikpiaaGreat
set_option linter.unusedSimpArgs false
set_option linter.unusedVariables false
open Go.Aw Go.RowKit
def zzO:List (Nat×List Nat):=[(0,[]),(1,[0]),(2,[0,1]),(3,[]),(4,[3]),(5,[0,1,2,3,4]),(6,[]),(7,[6]),(8,[0,1,2,3,4,5,6,7]),(9,[0,1,2,3,4,6,7]),(10,[0,1,2,3,4,5,6,7,8,9]),(11,[0,1,2,3,4,5,6,7,8,9,10]),(12,[0,1,2,3,4,5,6,7,8,9,10,11]),(13,[0,1,2,3,4,5,6,7,8,9,10,11,12]),(14,[0,1,2,3,4,5,6,7,8,9,10,11,12,13])]
def zzN:List (Nat×List Nat):=[(0,[]),(1,[0]),(2,[0,1]),(3,[]),(4,[3]),(5,[0,1,2,3,4]),(6,[]),(7,[6]),(8,[0,1,2,3,4,5,6,7]),(9,[0,1,2,3,4,6,7]),(10,[0,1,2,3,4,5,6,7,8,9]),(11,[0,1,2,3,4,5,6,7,8,9,10]),(12,[0,1,2,3,4,5,6,7,8,9,10,11]),(13,[0,1,2,3,4,5,6,7,8,9,10,11,12]),(14,[0,1,2,3,4,5,6,7,8,9,10,11,12,13])]
def zzS:List (Nat×List Nat):=[(0,[]),(1,[0]),(2,[0,1]),(3,[]),(4,[3]),(5,[0,1,2,3,4]),(6,[0,1,2,3,4]),(7,[0,1,2,3,4,5,6]),(8,[0,1,2,3,4,5,6,7]),(9,[0,1,2,3,4,5,6,7,8])]
def zxh:List (Nat×List Nat):=[(0,[100104]),(1,[0]),(2,[100104]),(3,[2,100104]),(4,[100104]),(5,[2,3,4,100104]),(6,[2,3,4,5,100104]),(7,[2,3,4,5,6,100104]),(8,[2,3,4,5,6,7,100104]),(9,[0,1,2,3,4,5,6,7,8]),(10,[0,1,2,3,4,5,6,7,8,9,100104]),(11,[0,1,2,3,4,5,6,7,8,9,10])]
def zzV:List (Nat×List Nat):=[(0,[]),(1,[0]),(2,[0,1]),(3,[]),(4,[3]),(5,[0,1,2,3,4]),(6,[]),(7,[6]),(8,[0,1,2,3,4,5,6,7]),(9,[0,1,2,3,4,6,7]),(10,[0,1,2,3,4,5,6,7,8,9]),(11,[0,1,2,3,4,5,6,7,8,9,10]),(12,[0,1,2,3,4,5,6,7,8,9,10,11]),(13,[0,1,2,3,4,5,6,7,8,9,10,11,12]),(14,[0,1,2,3,4,5,6,7,8,9,10,11,12,13])]
attribute [local irreducible] WL AC WD WE MStep OkOp
theorem zz3{f:Nat}{args:List AV}{e es:Nat}{rows:List (List AV)}(h:FC Tryz.prog f args (zt8 e es rows)):FC Tryz.prog f args (.lst es rows false):=by
 cases rows with
 |nil=>exact FC.weak rfl rfl (fun l=>by simp[zt8]) (fun l=>by simp) (.nilF _ _ _) h
 |cons r l=>exact FC.seen h
end Go.Proofs.YtoknnfhgoikpiaaGreat
