/- What infer.Infer tells by other fuel. -/
import Derived.Test.YtokfbblhjpfjkaaGreatMInferS
set_option linter.unusedSimpArgs false
set_option linter.unusedVariables false
namespace Go.Proofs.YtokfbblhjpfjkaaGreat
open Go.Aw Go.RowKit
def zC5(env:List En)(ctx:List Tm)(t:Tm)(fuel:Int):Int:=
 if zCC env≠0 then zCC env else if zDa env ctx≠0 then zDa env ctx else if checkT t≠0 then checkT t else if fuel <0∨65536 <fuel then 1 else 0
theorem zC1{env:List En}{ctx:List Tm}{t:Tm}{fuel:Int}(h:zC5 env ctx t fuel≠0):zzQ env ctx t fuel=(zT,[],0,zC5 env ctx t fuel):=by
 unfold zzQ
 exact if_pos h
theorem zCr{env:List En}{ctx:List Tm}{t:Tm}{fuel:Int}(h:zC5 env ctx t fuel=0):zzQ env ctx t fuel=
 if(typW (burnT (lookR env)) env t.size ctx t (0,(fuel,0,[]))).2.1≠0 then(zT,[],0,(typW (burnT (lookR env)) env t.size ctx t (0,(fuel,0,[]))).2.1)
 else((typW (burnT (lookR env)) env t.size ctx t (0,(fuel,0,[]))).1,(typW (burnT (lookR env)) env t.size ctx t (0,(fuel,0,[]))).2.2.2.2,(typW (burnT (lookR env)) env t.size ctx t (0,(fuel,0,[]))).2.2.2.1,0):=by
 have e:zzQ env ctx t fuel=if(workW (burnT (lookR env)) env ctx t (fuel,0,[])).2.1≠0 then(zT,[],0,(workW (burnT (lookR env)) env ctx t (fuel,0,[])).2.1)else((workW (burnT (lookR env)) env ctx t (fuel,0,[])).1,(workW (burnT (lookR env)) env ctx t (fuel,0,[])).2.2.2.2,(workW (burnT (lookR env)) env ctx t (fuel,0,[])).2.2.2.1,0):=by
  unfold zzQ
  exact if_neg (fun q=>q h)
 rw[e]
 unfold workW
 by_cases q:(typW (burnT (lookR env)) env t.size ctx t (0,(fuel,0,[]))).2.1=0
 ·simp[q]
 ·simp[q]
theorem zEg{env:List En}{ctx:List Tm}{t:Tm}{fuel:Int}(h:zC5 env ctx t fuel=0):zCC env=0∧zDa env ctx=0∧checkT t=0∧0≤fuel∧fuel≤65536:=by
 unfold zC5 at h
 split at h
 ·rename_i q;exact absurd h q
 ·rename_i q
  split at h
  ·rename_i q2;exact absurd h q2
  ·rename_i q2
   split at h
   ·rename_i q3;exact absurd h q3
   ·rename_i q3
    split at h
    ·cases h
    ·exact⟨Classical.not_not.1 q,Classical.not_not.1 q2,Classical.not_not.1 q3,by omega,by omega⟩
end Go.Proofs.YtokfbblhjpfjkaaGreat
