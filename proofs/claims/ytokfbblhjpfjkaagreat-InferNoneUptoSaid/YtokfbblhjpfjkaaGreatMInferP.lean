/- The plain laws of infer: what is no function, no pair, no type; types of types;  -/
import Derived.Test.YtokfbblhjpfjkaaGreatMInferT
import Derived.Test.YtokfbblhjpfjkaaGreatMDecL
set_option linter.unusedSimpArgs false
set_option linter.unusedVariables false
namespace Go.Proofs.YtokfbblhjpfjkaaGreat
open Go.Aw Go.RowKit
abbrev tyB(env:List En)(ctx:List Tm)(t:Tm):WM Tk Tm:=tyW (burnT (lookR env)) env ctx t
theorem zGm{env:List En}{ctx:List Tm}{t:Tm}{F:Int}(h1:zCC env=0)(h2:zDa env ctx=0)(h3:checkT t=0)(h4:0≤F∧F≤65536):zC5 env ctx t F=0:=by
 unfold zC5
 rw[if_neg (by omega),if_neg (by omega),if_neg (by omega),if_neg (by omega)]
theorem zFM{env:List En}{ctx:List Tm}{t:Tm}{F:Int}(h:(zzQ env ctx t F).2.2.2=0):zC5 env ctx t F=0∧tyB env ctx t (0,(F,0,[]))=((zzQ env ctx t F).1,(0,(tyB env ctx t (0,(F,0,[]))).2.2)):=by
 by_cases ha:zC5 env ctx t F=0
 ·refine⟨ha,?_⟩
  have hR:=zCr ha
  by_cases hz:(tyB env ctx t (0,(F,0,[]))).2.1=0
  ·rw[if_neg (fun q=>q hz)]at hR
   rw[hR]
   exact Prod.ext rfl (Prod.ext hz rfl)
  ·rw[if_pos hz]at hR
   rw[hR]at h;exact absurd h hz
 ·rw[zC1 ha]at h;exact absurd h ha
theorem zHE{env:List En}{ctx:List Tm}{t:Tm}{F:Int}(h:zC5 env ctx t F=0):(zzQ env ctx t F).2.2.2=(tyB env ctx t (0,(F,0,[]))).2.1:=by
 rw[zCr h]
 by_cases hz:(tyB env ctx t (0,(F,0,[]))).2.1=0
 ·rw[if_neg (fun q=>q hz)];exact hz.symm
 ·rw[if_pos hz]
theorem zGC{k k':Int}{a b:Tm}(hk:kidsR k=2)(hk':kidsR k'=2)(h:checkT (.mk k 0 [a,b])=0):checkT (.mk k' 0 [a,b])=0:=by
 obtain⟨h1,h2,h3⟩:=zcH h
 refine zvv h1 h2 ?_
 simp only[formedT,hk,hk']at h3⊢
 exact h3
theorem zF2{k k':Int}{a b:Tm}(hk:kidsR k=2)(hk':kidsR k'=1)(h:checkT (.mk k 0 [a,b])=0):checkT (.mk k' 0 [a])=0:=by
 obtain⟨h1,h2,h3⟩:=zcH h
 have ha:=(zzF (zGC hk (by decide) h)).1
 obtain⟨a1,a2,a3⟩:=zcH ha
 refine zvv ?_ ?_ ?_
 ·simp only[Tm.size,sizes]at h1⊢;omega
 ·simp only[Tm.depth,zbW]at h2⊢;omega
 ·simp[formedT,zep,hk',a3]
theorem zHD{env:List En}{ctx:List Tm}{t a:Tm}{F:Int}(h:(zzQ env ctx t F).2.2.2=0)(hc:checkT (.mk 6 0 [t,a])=0):
 ((zzQ env ctx t F).1.kind≠4→(zzQ env ctx (.mk 6 0 [t,a]) F).2.2.2=8)∧((zzQ env ctx t F).1.kind≠7→(zzQ env ctx (.mk 9 0 [t]) F).2.2.2=8∧(zzQ env ctx (.mk 10 0 [t]) F).2.2.2=8)∧
 ((zzQ env ctx t F).1.kind≠2→(zzQ env ctx (.mk 5 0 [t,a]) F).2.2.2=8∧(zzQ env ctx (.mk 12 0 [t,a]) F).2.2.2=8)∧((zzQ env ctx t F).1.kind=7→(zzQ env ctx (.mk 9 0 [t]) F).2.2.2=0):=by
 obtain⟨ha,hx⟩:=zFM h
 obtain⟨a1,a2,a3,a4⟩:=zEg ha
 have c5:=zGC (k':=5) (by decide) (by decide) hc
 have c12:=zGC (k':=12) (by decide) (by decide) hc
 have c9:=zF2 (k':=9) (by decide) (by decide) hc
 have c10:=zF2 (k':=10) (by decide) (by decide) hc
 generalize (zzQ env ctx t F).1=x at hx
 refine⟨fun q=>?_,fun q=>⟨?_,?_⟩,fun q=>⟨?_,?_⟩,fun q=>?_⟩
 ·rw[zHE (zGm a1 a2 hc a4),zHT hc hx q]
 ·rw[zHE (zGm a1 a2 c9 a4),zH1 c9 hx q]
 ·rw[zHE (zGm a1 a2 c10 a4),zH0 c10 hx q]
 ·rw[zHE (zGm a1 a2 c5 a4),zHS c5 hx q]
 ·rw[zHE (zGm a1 a2 c12 a4),zHP c12 hx q]
 ·rw[zHE (zGm a1 a2 c9 a4)]
  exact congrArg (fun r:Tm×WS Tk=>r.2.1) (zHR c9 hx q)
theorem zHA{σ:Type}{ctx:List Tm}{a:Tm}{s:σ}(h:ctx.length <40):zBS ctx a (0,s)=(ctx++[a],(0,s)):=by
 unfold zBS
 rw[zCV (show wantW (decide ((ctx.length:Int) <40)) 13 (0,s)=(true,(0,s)) by rw[decide_eq_true (by omega)];exact zDD)]
 rfl
end Go.Proofs.YtokfbblhjpfjkaaGreat
