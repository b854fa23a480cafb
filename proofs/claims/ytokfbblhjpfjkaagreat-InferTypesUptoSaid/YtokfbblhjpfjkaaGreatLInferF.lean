/- What infer.Infer tells by other fuel. -/
import Derived.Test.YtokfbblhjpfjkaaGreatLInferS
set_option linter.unusedSimpArgs false
set_option linter.unusedVariables false
namespace Go.Proofs.YtokfbblhjpfjkaaGreat
open Go.Aw Go.RowKit
def zC5(env:List En)(ctx:List Tm)(t:Tm)(fuel:Int):Int:=
 if envI env≠0 then envI env else if zDa env ctx≠0 then zDa env ctx else if checkT t≠0 then checkT t else if fuel <0∨65536 <fuel then 1 else 0
theorem zC1{env:List En}{ctx:List Tm}{t:Tm}{fuel:Int}(h:zC5 env ctx t fuel≠0):zzQ env ctx t fuel=(zT,[],0,zC5 env ctx t fuel):=by
 unfold zzQ
 exact if_pos h
theorem zCr{env:List En}{ctx:List Tm}{t:Tm}{fuel:Int}(h:zC5 env ctx t fuel=0):zzQ env ctx t fuel=
 if(typW (burnT (lookR env)) env t.size ctx t (0,(fuel,0,[]))).2.1≠0 then(zT,[],0,(typW (burnT (lookR env)) env t.size ctx t (0,(fuel,0,[]))).2.1)
 else((typW (burnT (lookR env)) env t.size ctx t (0,(fuel,0,[]))).1,(typW (burnT (lookR env)) env t.size ctx t (0,(fuel,0,[]))).2.2.2.2,(typW (burnT (lookR env)) env t.size ctx t (0,(fuel,0,[]))).2.2.2.1,0):=by
 have e:zzQ env ctx t fuel=if(workW (burnT (lookR env)) env ctx t (fuel,0,[])).2.1≠0 then(zT,[],0,(workW (burnT (lookR env)) env ctx t (fuel,0,[])).2.1)else((workW (burnT (lookR env)) env ctx t (fuel,0,[])).1,(workW (burnT (lookR env)) env ctx t (fuel,0,[])).2.2.2.2,(workW (burnT (lookR env)) env ctx t (fuel,0,[])).2.2.2.1,0):=by
  unfold zzQ
  exact if_neg (fun q=>q h)
 rw[e]
 unfold workW
 by_cases q:(typW (burnT (lookR env)) env t.size ctx t (0,(fuel,0,[]))).2.1=0
 ·simp[q]
 ·simp[q]
theorem zEg{env:List En}{ctx:List Tm}{t:Tm}{fuel:Int}(h:zC5 env ctx t fuel=0):envI env=0∧zDa env ctx=0∧checkT t=0∧0≤fuel∧fuel≤65536:=by
 unfold zC5 at h
 split at h
 ·rename_i q;exact absurd h q
 ·rename_i q
  split at h
  ·rename_i q2;exact absurd h q2
  ·rename_i q2
   split at h
   ·rename_i q3;exact absurd h q3
   ·rename_i q3
    split at h
    ·cases h
    ·exact⟨Classical.not_not.1 q,Classical.not_not.1 q2,Classical.not_not.1 q3,by omega,by omega⟩
theorem zEO{env:List En}{ctx:List Tm}{t:Tm}{F G:Int}(hF:0≤F∧F≤65536)(hG:0≤G∧G≤65536):zC5 env ctx t G=zC5 env ctx t F:=by
 unfold zC5
 rw[if_neg (show ¬(G <0∨65536 <G) by omega),if_neg (show ¬(F <0∨65536 <F) by omega)]
theorem zGe{env:List En}{ctx:List Tm}{t:Tm}{F:Int}(hF:0≤F∧F≤65536):
 ((zzQ env ctx t F).2.2.2=0→zB3 (zzQ env ctx t F).2.1=(zzQ env ctx t F).2.2.1∧0≤(zzQ env ctx t F).2.2.1∧(zzQ env ctx t F).2.2.1≤F∧
   ∀ G,0≤G∧G≤65536→((zzQ env ctx t F).2.2.1≤G→zzQ env ctx t G=zzQ env ctx t F)∧(G <(zzQ env ctx t F).2.2.1→(zzQ env ctx t G).2.2.2=7))∧
 ((zzQ env ctx t F).2.2.2≠0→(zzQ env ctx t F).1=zT∧(zzQ env ctx t F).2.1=[]∧(zzQ env ctx t F).2.2.1=0∧((zzQ env ctx t F).2.2.2≠7→ ∀ G,F≤G∧G≤65536→(zzQ env ctx t G).2.2.2=(zzQ env ctx t F).2.2.2)):=by
 by_cases hA:zC5 env ctx t F=0
 ·have hx: ∀ G:Int,0≤G∧G≤65536→zC5 env ctx t G=0:=fun G hG=>(zEO hF hG).trans hA
  obtain⟨f1,f2⟩:=Fu.typ (lk:=lookR env) (env:=env) t.size ctx t F 0 [] hF.1
  by_cases hz:(typW (burnT (lookR env)) env t.size ctx t (0,(F,0,[]))).2.1=0
  ·obtain⟨ps,p0,p1,p2,p3⟩:=f1 hz
   have hR:zzQ env ctx t F=((typW (burnT (lookR env)) env t.size ctx t (0,(F,0,[]))).1,ps,zB3 ps,0):=by
    rw[zCr hA,if_neg (fun q=>q hz),p2];simp
   rw[hR]
   refine⟨fun _=>⟨rfl,p0,p1,fun G hG=>⟨fun hge=>?_,fun hlt=>?_⟩⟩,fun q=>absurd rfl q⟩
   ·have:=(p3 G 0 [] hG.1).1 hge
    rw[zCr (hx G hG),this];simp
   ·have:=(p3 G 0 [] hG.1).2 hlt
    rw[zCr (hx G hG),if_pos (by rw[this];decide)];exact this
  ·have hR:zzQ env ctx t F=(zT,[],0,(typW (burnT (lookR env)) env t.size ctx t (0,(F,0,[]))).2.1):=by rw[zCr hA,if_pos hz]
   rw[hR]
   refine⟨fun q=>absurd q hz,fun _=>⟨rfl,rfl,rfl,fun q7 G hG=>?_⟩⟩
   have:=f2 hz q7 G 0 [] hG.1
   rw[zCr (hx G ⟨by omega,hG.2⟩),if_pos (by rw[this];exact hz)];exact this
 ·have hR:=zC1 hA
  rw[hR]
  refine⟨fun q=>absurd q hA,fun _=>⟨rfl,rfl,rfl,fun _ G hG=>?_⟩⟩
  have:=zEO (env:=env) (ctx:=ctx) (t:=t) hF (G:=G) ⟨by omega,hG.2⟩
  rw[zC1 (by rw[this];exact hA)];exact this
end Go.Proofs.YtokfbblhjpfjkaaGreat
