/- The plain laws of infer: what is no function, no pair, no type; types of types;  -/
import Derived.Test.YtokfbblhjpfjkaaGreatLInferT
import Derived.Test.YtokfbblhjpfjkaaGreatLDecL
set_option linter.unusedSimpArgs false
set_option linter.unusedVariables false
namespace Go.Proofs.YtokfbblhjpfjkaaGreat
open Go.Aw Go.RowKit
abbrev tyB(env:List En)(ctx:List Tm)(t:Tm):WM Tk Tm:=tyW (burnT (lookR env)) env ctx t
theorem zGm{env:List En}{ctx:List Tm}{t:Tm}{F:Int}(h1:envI env=0)(h2:zDa env ctx=0)(h3:checkT t=0)(h4:0≤F∧F≤65536):zC5 env ctx t F=0:=by
 unfold zC5
 rw[if_neg (by omega),if_neg (by omega),if_neg (by omega),if_neg (by omega)]
theorem zFM{env:List En}{ctx:List Tm}{t:Tm}{F:Int}(h:(zzQ env ctx t F).2.2.2=0):zC5 env ctx t F=0∧tyB env ctx t (0,(F,0,[]))=((zzQ env ctx t F).1,(0,(tyB env ctx t (0,(F,0,[]))).2.2)):=by
 by_cases ha:zC5 env ctx t F=0
 ·refine⟨ha,?_⟩
  have hR:=zCr ha
  by_cases hz:(tyB env ctx t (0,(F,0,[]))).2.1=0
  ·rw[if_neg (fun q=>q hz)]at hR
   rw[hR]
   exact Prod.ext rfl (Prod.ext hz rfl)
  ·rw[if_pos hz]at hR
   rw[hR]at h;exact absurd h hz
 ·rw[zC1 ha]at h;exact absurd h ha
theorem zHE{env:List En}{ctx:List Tm}{t:Tm}{F:Int}(h:zC5 env ctx t F=0):(zzQ env ctx t F).2.2.2=(tyB env ctx t (0,(F,0,[]))).2.1:=by
 rw[zCr h]
 by_cases hz:(tyB env ctx t (0,(F,0,[]))).2.1=0
 ·rw[if_neg (fun q=>q hz)];exact hz.symm
 ·rw[if_pos hz]
theorem zFb{env:List En}{ctx:List Tm}{t u:Tm}{F:Int}{s:Tk}(h:zC5 env ctx t F=0)(hx:tyB env ctx t (0,(F,0,[]))=(u,(0,s))):(zzQ env ctx t F).1=u∧(zzQ env ctx t F).2.2.2=0:=by
 have hx':typW (burnT (lookR env)) env t.size ctx t (0,(F,0,[]))=(u,(0,s)):=hx
 rw[zCr h,hx',if_neg (fun q=>q rfl)];exact⟨rfl,rfl⟩
theorem zGC{k k':Int}{a b:Tm}(hk:kidsR k=2)(hk':kidsR k'=2)(h:checkT (.mk k 0 [a,b])=0):checkT (.mk k' 0 [a,b])=0:=by
 obtain⟨h1,h2,h3⟩:=zcH h
 refine zvv h1 h2 ?_
 simp only[formedT,hk,hk']at h3⊢
 exact h3
theorem zHL{env:List En}{ctx:List Tm}{t x:Tm}{F:Int}{s:Tk}(hF:0≤F)(hx:tyB env ctx t (0,(F,0,[]))=(x,(0,s))): ∃ ps,0≤zB3 ps∧zB3 ps≤F∧ ∀ (L u:Int) (tr:List (List (List Int))),0≤L→zB3 ps≤L→tyB env ctx t (0,(L,u,tr))=(x,(0,(L-zB3 ps,u+zB3 ps,tr++ps))):=by
 obtain⟨f1,_⟩:=Fu.typ (lk:=lookR env) (env:=env) t.size ctx t F 0 [] hF
 have hx':typW (burnT (lookR env)) env t.size ctx t (0,(F,0,[]))=(x,(0,s)):=hx
 rw[hx']at f1
 obtain⟨ps,p0,p1,_,p3⟩:=f1 rfl
 exact⟨ps,p0,p1,fun L u tr hL hle=>(p3 L u tr hL).1 hle⟩
theorem zId{env:List En}{ctx:List Tm}{t:Tm}{F:Int}(hF:0≤F)(h0:(tyB env ctx t (0,(F,0,[]))).2.1≠0)(h7:(tyB env ctx t (0,(F,0,[]))).2.1≠7)(L u:Int)(tr:List (List (List Int)))(hL:F≤L):(tyB env ctx t (0,(L,u,tr))).2.1=(tyB env ctx t (0,(F,0,[]))).2.1:=
 (Fu.typ (lk:=lookR env) (env:=env) t.size ctx t F 0 [] hF).2 h0 h7 L u tr hL
theorem zIf{lk:Tm→Option (Tm×Int)}{t:Tm}{F L u:Int}{tr:List (List (List Int))}(hc:checkT t=0)(hF:0≤F∧F≤4096)(h:(normR 0 lk t F).2.2=0)(hL:F≤L):
 normW (burnT lk) t (0,(L,u,tr))=((normR 0 lk t F).1,(0,(L-((normR 0 lk t F).2.1.length:Nat),u+((normR 0 lk t F).2.1.length:Nat),tr++[(normR 0 lk t F).2.1])))∧((normR 0 lk t F).2.1.length:Int)≤F:=by
 obtain⟨_,_,hch,hle⟩:=zzb h hF.1 hF.2
 refine⟨?_,hle⟩
 have hg:goR lk t L=((normR 0 lk t F).1,(normR 0 lk t F).2.1,0):=by
  unfold goR
  rw[if_neg (by omega)]
  have:=(zyI hch (normM L) []).1 (by unfold normM;omega)
  rw[this];rfl
 have hb:burnT lk (L,u,tr) t=((normR 0 lk t F).1,0,(L-((normR 0 lk t F).2.1.length:Nat),u+((normR 0 lk t F).2.1.length:Nat),tr++[(normR 0 lk t F).2.1])):=by
  unfold burnT;rw[hg];rfl
 unfold normW
 rw[zDh]
 show gotW ((burnT lk (L,u,tr) t).1,(burnT lk (L,u,tr) t).2.1) (0,(burnT lk (L,u,tr) t).2.2)=_
 rw[hb];rfl
theorem zHf{env:List En}{ctx:List Tm}{t x:Tm}{s s':Tk}(hE:envI env=0)(hc:CtxS env ctx)(ht:checkT t=0)(hx:tyB env ctx t (0,s)=(x,(0,s'))):Sd (env.length:Nat) (ctx.length:Nat) x∧zbx t (ctx.length:Nat) (env.length:Nat)=true:=by
 have:=Po.typS (zFl (lookR env)) (zHs hE) (zFm hE) t.size ctx t (Nat.le_refl _) hc ht s
 have hx':typW (burnT (lookR env)) env t.size ctx t (0,s)=(x,(0,s')):=hx
 rw[hx']at this
 exact this rfl
theorem zH5{env:List En}{t:Tm}{F v:Int}(hE:envI env=0)(hF:0≤F∧F≤4096)(h:(normR 0 (lookR env) t F).2.2=0)(hv:0≤v)(hs:zbx t v (env.length:Nat)=true):Sd (env.length:Nat) v (normR 0 (lookR env) t F).1:=by
 obtain⟨_,hct,hch,_⟩:=zzb h hF.1 hF.2
 exact⟨(zyf hch hct).1,zDB hE hv hch hs⟩
theorem zHA{σ:Type}{ctx:List Tm}{a:Tm}{s:σ}(h:ctx.length <40):zBS ctx a (0,s)=(ctx++[a],(0,s)):=by
 unfold zBS
 rw[zCV (show wantW (decide ((ctx.length:Int) <40)) 13 (0,s)=(true,(0,s)) by rw[decide_eq_true (by omega)];exact zDD)]
 rfl
theorem zHZ{σ:Type}{N:σ→Tm→Tm×Int×σ}{env:List En}{ctx:List Tm}{k:Int}{a b:Tm}{w:σ}(hk:k=4∨k=7)(hc:checkT (.mk k 0 [a,b])=0):tyW N env ctx (.mk k 0 [a,b]) (0,w)=zCx N (tyW N env) ctx (.mk k 0 [a,b]) (0,w):=by
 unfold tyW
 rw[zCI hc,zDh]
 rcases hk with rfl|rfl <;>rfl
theorem zHV{env:List En}{ctx:List Tm}{k:Int}{a b:Tm}(hk:k=4∨k=7)(hE:envI env=0)(hcx:zDa env ctx=0)(hl:ctx.length <40)(hc:checkT (.mk k 0 [a,b])=0):
 ((zzQ env ctx a 119).2.2.2≠0→(zzQ env ctx a 119).2.2.2=7∨(zzQ env ctx (.mk k 0 [a,b]) 300).2.2.2=(zzQ env ctx a 119).2.2.2)∧
 ((zzQ env ctx a 119).2.2.2=0→(zzQ env ctx a 119).1.kind≠2→(zzQ env ctx (.mk k 0 [a,b]) 300).2.2.2=8)∧
 ((zzQ env ctx a 119).2.2.2=0→(zzQ env ctx a 119).1.kind=2→(normR 0 (lookR env) a 60).2.2=0→
   ((zzQ env (ctx++[(normR 0 (lookR env) a 60).1]) b 60).2.2.2≠0→(zzQ env (ctx++[(normR 0 (lookR env) a 60).1]) b 60).2.2.2=7∨(zzQ env ctx (.mk k 0 [a,b]) 300).2.2.2=(zzQ env (ctx++[(normR 0 (lookR env) a 60).1]) b 60).2.2.2)∧
   ((zzQ env (ctx++[(normR 0 (lookR env) a 60).1]) b 60).2.2.2=0→((zzQ env (ctx++[(normR 0 (lookR env) a 60).1]) b 60).1.kind≠2→(zzQ env ctx (.mk k 0 [a,b]) 300).2.2.2=8)∧
     ((zzQ env (ctx++[(normR 0 (lookR env) a 60).1]) b 60).1.kind=2→(zzQ env ctx (.mk k 0 [a,b]) 300).2.2.2=0∧(zzQ env ctx (.mk k 0 [a,b]) 300).1=.mk 2 (max (zzQ env ctx a 119).1.num (zzQ env (ctx++[(normR 0 (lookR env) a 60).1]) b 60).1.num) []))):=by
 have hk2:kidsR k=2:=by rcases hk with rfl|rfl <;>decide
 obtain⟨ca,cb⟩:=zzF (zGC hk2 (by decide) hc)
 have aA:zC5 env ctx a 119=0:=zGm hE hcx ca (by omega)
 have aT:zC5 env ctx (.mk k 0 [a,b]) 300=0:=zGm hE hcx hc (by omega)
 have hcs:=(zEh hcx).2
 have eT:=zHE aT
 have hbk:tyB env ctx (.mk k 0 [a,b]) (0,(300,0,[]))=zCx (burnT (lookR env)) (tyB env) ctx (.mk k 0 [a,b]) (0,(300,0,[])):=zHZ hk hc
 have tail: ∀ c:List Tm,∀ i:Int,Er (zyN (zz4 (tyB env) c b) fun j=>zzZ (Tm.mk 2 (max i j) [])):=fun c i=>.bind (.level (Er.ty _ env) _ _) fun _=>.pure _
 have tail2: ∀ (i:Int),Er (zyN (normW (burnT (lookR env)) a) fun x=>zyN (zBS ctx x) fun c=>zyN (zz4 (tyB env) c b) fun j=>zzZ (Tm.mk 2 (max i j) [])):=fun i=>.bind (.norm _ _) fun _=>.bind (.behind _ _) fun _=>tail _ _
 have hstart:zCx (burnT (lookR env)) (tyB env) ctx (.mk k 0 [a,b]) (0,(300,0,[]))=zyN (zz4 (tyB env) ctx a) (fun i=>zyN (normW (burnT (lookR env)) a) fun x=>zyN (zBS ctx x) fun c=>zyN (zz4 (tyB env) c b) fun j=>zzZ (Tm.mk 2 (max i j) [])) (0,(300,0,[])):=rfl
 refine⟨fun h0=>?_,fun h0 hx2=>?_,fun h0 hx2 hn=>?_⟩
 ·by_cases h7:(zzQ env ctx a 119).2.2.2=7
  ·exact .inl h7
  ·right
   have e1:=zHE aA
   rw[e1]at h0 h7⊢
   have st:=zId (env:=env) (ctx:=ctx) (t:=a) (F:=119) (by omega) h0 h7 300 0 [] (by omega)
   have hlv:(zz4 (tyB env) ctx a (0,(300,0,[]))).2.1=(tyB env ctx a (0,(119,0,[]))).2.1:=by
    unfold zz4
    rw[zDM (by rw[st];exact h0) fun _=>.bind (.want _ _) fun _=>.pure _];exact st
   rw[eT,hbk,hstart,zDM (by rw[hlv];exact h0) tail2];exact hlv
 ·obtain⟨_,hx⟩:=zFM h0
  generalize (zzQ env ctx a 119).1=x at hx hx2
  obtain⟨ps,p0,p1,p2⟩:=zHL (by omega) hx
  have hlv:=zFs (p2 300 0 [] (by omega) (by omega)) hx2
  rw[eT,hbk,hstart,zDM (by rw[hlv];exact(by decide:(8:Int)≠0)) tail2,hlv]
 ·obtain⟨_,hx⟩:=zFM h0
  generalize (zzQ env ctx a 119).1=x at hx hx2
  obtain⟨ps,p0,p1,p2⟩:=zHL (by omega) hx
  have hsa:=(zHf hE hcs ca hx).2
  have hlv:=zHC (p2 300 0 [] (by omega) (by omega)) hx2
  obtain⟨hnb,hnl⟩:=zIf (u:=0+zB3 ps) (tr:=[]++ps) ca (by omega) hn (show(60:Int)≤300-zB3 ps by omega)
  have hnr:=zH5 hE (by omega) hn (by omega) hsa
  have e1:zCx (burnT (lookR env)) (tyB env) ctx (.mk k 0 [a,b]) (0,(300,0,[]))=zyN (zz4 (tyB env) (ctx++[(normR 0 (lookR env) a 60).1]) b) (fun j=>zzZ (Tm.mk 2 (max x.num j) [])) (0,(300-zB3 ps-((normR 0 (lookR env) a 60).2.1.length:Nat),0+zB3 ps+((normR 0 (lookR env) a 60).2.1.length:Nat),[]++ps++[(normR 0 (lookR env) a 60).2.1])):=by
   rw[hstart,zCV hlv,zCV hnb,zCV (zHA hl)]
  generalize (normR 0 (lookR env) a 60).1=n at hnr e1⊢
  generalize (normR 0 (lookR env) a 60).2.1=np at hnl e1
  have hc2:zDa env (ctx++[n])=0:=zIl (by simp;omega) (hcs.snoc hnr)
  have aB:zC5 env (ctx++[n]) b 60=0:=zGm hE hc2 cb (by omega)
  generalize hL:(300-zB3 ps-(np.length:Nat):Int)=L at e1
  have hL0:(60:Int)≤L:=by omega
  refine⟨fun hb0=>?_,fun hb0=>?_⟩
  ·by_cases h7:(zzQ env (ctx++[n]) b 60).2.2.2=7
   ·exact .inl h7
   ·right
    have e2:=zHE aB
    rw[e2]at hb0 h7⊢
    have st:=zId (env:=env) (ctx:=ctx++[n]) (t:=b) (F:=60) (by omega) hb0 h7 L (0+zB3 ps+(np.length:Nat)) ([]++ps++[np]) hL0
    have hlv2:(zz4 (tyB env) (ctx++[n]) b (0,(L,0+zB3 ps+(np.length:Nat),[]++ps++[np]))).2.1=(tyB env (ctx++[n]) b (0,(60,0,[]))).2.1:=by
     unfold zz4
     rw[zDM (by rw[st];exact hb0) fun _=>.bind (.want _ _) fun _=>.pure _];exact st
    rw[eT,hbk,e1,zDM (by rw[hlv2];exact hb0) fun _=>.pure _];exact hlv2
  ·obtain⟨_,hz⟩:=zFM hb0
   generalize (zzQ env (ctx++[n]) b 60).1=z at hz⊢
   obtain⟨qs,r0,r1,r2⟩:=zHL (by omega) hz
   have hz2:=r2 L (0+zB3 ps+(np.length:Nat)) ([]++ps++[np]) (by omega) (by omega)
   refine⟨fun hk3=>?_,fun hk3=>?_⟩
   ·have hlv2:=zFs hz2 hk3
    rw[eT,hbk,e1,zDM (by rw[hlv2];exact(by decide:(8:Int)≠0)) (fun _=>.pure _),hlv2]
   ·have hlv2:=zHC hz2 hk3
    have:tyB env ctx (.mk k 0 [a,b]) (0,(300,0,[]))=(.mk 2 (max x.num z.num) [],(0,(L-zB3 qs,0+zB3 ps+(np.length:Nat)+zB3 qs,[]++ps++[np]++qs))):=by rw[hbk,e1,zCV hlv2];rfl
    exact⟨(zFb aT this).2,(zFb aT this).1⟩
end Go.Proofs.YtokfbblhjpfjkaaGreat
