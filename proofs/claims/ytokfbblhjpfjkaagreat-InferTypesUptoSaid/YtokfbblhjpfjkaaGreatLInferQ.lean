/- What went well, part by part; the plain laws of InferIds, InferVars. -/
import Derived.Test.YtokfbblhjpfjkaaGreatLInferP
set_option linter.unusedSimpArgs false
set_option linter.unusedVariables false
namespace Go.Proofs.YtokfbblhjpfjkaaGreat
open Go.Aw Go.RowKit
section
variable {σ α β:Type}
theorem zCp{m:WM σ α}{f:α→WM σ β}{s s':σ}{b:β}(h:zyN m f (0,s)=(b,(0,s')))(hf: ∀ a,Er (f a)): ∃ a s1,m (0,s)=(a,(0,s1))∧f a (0,s1)=(b,(0,s')):=by
 by_cases hz:(m (0,s)).2.1=0
 ·have e:m (0,s)=((m (0,s)).1,(0,(m (0,s)).2.2)):=Prod.ext rfl (Prod.ext hz rfl)
  rw[zCV e]at h
  exact⟨_,_,e,h⟩
 ·have h2:=zDM (f:=f) hz hf
  rw[h]at h2
  exact absurd (congrArg Prod.fst h2.symm) hz
theorem zF1{z:α}{m:WM σ α}{s s':σ}{a:α}(h:okW z m (0,s)=(a,(0,s'))):m (0,s)=(a,(0,s')):=by rwa[zDh]at h
theorem zDI{b:Bool}{er:Int}{s s':σ}{a:Bool}(her:er≠0)(h:wantW b er (0,s)=(a,(0,s'))):b=true∧a=true∧s'=s:=by
 cases b with
 |false=>rw[zEi]at h;exact absurd (congrArg (fun r=>r.2.1) h) her
 |true=>
  rw[zDD]at h
  exact⟨rfl,(congrArg Prod.fst h).symm,(congrArg (fun r=>r.2.2) h).symm⟩
theorem zDL{a b:α}{s s':σ}(h:zzZ (σ:=σ) a (0,s)=(b,(0,s'))):b=a∧s'=s:=⟨(congrArg Prod.fst h).symm,(congrArg (fun r=>r.2.2) h).symm⟩
theorem zGq{r:Tm×Int}{s s':σ}{a:Tm}(h:gotW r (0,s)=(a,(0,s'))):r.2=0∧a=r.1∧s'=s:=by
 unfold gotW at h
 obtain⟨b,s1,h1,h2⟩:=zCp h fun _=>.pure _
 obtain⟨h3,h4⟩:=zDL h2
 by_cases hz:r.2=0
 ·rw[decide_eq_true hz,zDD]at h1
  exact⟨hz,h3,h4.trans (congrArg (fun r=>r.2.2) h1).symm⟩
 ·exact absurd (zDI hz h1).1 (by simp[hz])
theorem zGR{t a:Tm}{s s':σ}(h:zCm t (0,s)=(a,(0,s'))):checkT t=0∧a=t∧s'=s:=zGq (r:=(t,checkT t)) (zF1 h)
variable {N:σ→Tm→Tm×Int×σ} {env:List En}
theorem zG2{t a:Tm}{s s':σ}(h:normW N t (0,s)=(a,(0,s'))):N s t=(a,0,s'):=by
 have h:=zF1 h
 have h:gotW ((N s t).1,(N s t).2.1) (0,(N s t).2.2)=(a,(0,s')):=h
 obtain⟨h1,h2,h3⟩:=zGq h
 exact Prod.ext h2.symm (Prod.ext h1 h3.symm)
theorem zE5{ty:List Tm→Tm→WM σ Tm}{ctx:List Tm}{t:Tm}{i:Int}{s s':σ}(h:zz4 ty ctx t (0,s)=(i,(0,s'))): ∃ x,ty ctx t (0,s)=(x,(0,s'))∧x.kind=2∧i=x.num:=by
 unfold zz4 at h
 obtain⟨x,s1,h1,h2⟩:=zCp h fun _=>.bind (.want _ _) fun _=>.pure _
 obtain⟨b,s2,h3,h4⟩:=zCp h2 fun _=>.pure _
 obtain⟨h5,h6,rfl⟩:=zDI (by decide) h3
 obtain⟨rfl,rfl⟩:=zDL h4
 exact⟨x,h1,of_decide_eq_true h5,rfl⟩
theorem zHB{ty:List Tm→Tm→WM σ Tm}{ctx:List Tm}{t typ:Tm}{ok:Bool}{s s':σ}(h:ofW ty ctx t typ (0,s)=(ok,(0,s'))):ty ctx t (0,s)=(typ,(0,s')):=by
 unfold ofW at h
 obtain⟨x,s1,h1,h2⟩:=zCp h fun _=>.ok _ _
 obtain⟨h5,h6,rfl⟩:=zDI (by decide) (zF1 h2)
 rw[←of_decide_eq_true h5];exact h1
theorem zEC{ctx c:List Tm}{a:Tm}{s s':σ}(h:zBS ctx a (0,s)=(c,(0,s'))):ctx.length <40∧c=ctx++[a]∧s'=s:=by
 unfold zBS at h
 obtain⟨b,s1,h1,h2⟩:=zCp h fun _=>.pure _
 obtain⟨h3,_,rfl⟩:=zDI (by decide) h1
 obtain⟨rfl,rfl⟩:=zDL h2
 exact⟨by have:=of_decide_eq_true h3;omega,rfl,rfl⟩
end
theorem zFB{lk:Tm→Option (Tm×Int)}{t a:Tm}{L u:Int}{tr:List (List (List Int))}{s':Tk}(h:normW (burnT lk) t (0,(L,u,tr))=(a,(0,s'))){F:Int}(hF:L≤F)(hF2:F≤4096)(h0:0≤F):
 ∃ p:List (List Int),normR 0 lk t F=(a,p,0)∧s'=(L-(p.length:Nat),u+(p.length:Nat),tr++[p])∧((p.length:Int)≤L∨p=[]):=by
 have hb:=zG2 h
 unfold burnT at hb
 split at hb
 ·rename_i q;exact absurd (congrArg (fun r=>r.2.1) hb) q
 ·rename_i q
  obtain⟨h1,h2,h3⟩:=zDU (lk:=lk) (t:=t) (x:=L) (Classical.not_not.1 q)
  have e1:(goR lk t L).1=a:=congrArg Prod.fst hb
  have e2:_=s':=congrArg (fun r=>r.2.2) hb
  rw[e1]at h2
  refine⟨(goR lk t L).2.1,?_,e2.symm,?_⟩
  ·rw[zyG h1 h0 hF2]
   have:=(zyI h2 F.toNat []).1 (by unfold normM at h3;omega)
   rw[this];rfl
  ·unfold normM at h3
   by_cases hz:(goR lk t L).2.1.length=0
   ·exact .inr (List.length_eq_zero_iff.1 hz)
   ·left;omega
theorem zGZ{env:List En}{ctx:List Tm}{t x:Tm}{L u:Int}{tr:List (List (List Int))}{s:Tk}(hL:0≤L)(hx:tyB env ctx t (0,(L,u,tr))=(x,(0,s))): ∃ ps,0≤zB3 ps∧zB3 ps≤L∧s=(L-zB3 ps,u+zB3 ps,tr++ps)∧ ∀ (L' u':Int) (tr':List (List (List Int))),0≤L'→zB3 ps≤L'→tyB env ctx t (0,(L',u',tr'))=(x,(0,(L'-zB3 ps,u'+zB3 ps,tr'++ps))):=by
 obtain⟨f1,_⟩:=Fu.typ (lk:=lookR env) (env:=env) t.size ctx t L u tr hL
 have hx':typW (burnT (lookR env)) env t.size ctx t (0,(L,u,tr))=(x,(0,s)):=hx
 rw[hx']at f1
 obtain⟨ps,p0,p1,p2,p3⟩:=f1 rfl
 exact⟨ps,p0,p1,p2,fun L' u' tr' hL' hle=>(p3 L' u' tr' hL').1 hle⟩
theorem zHn{x:Tm}(hx:checkT x=0)(hk:x.kind=2):x=.mk 2 x.num []:=by
 have hl:=zCE hx
 rw[hk]at hl
 cases x with
 |mk k n l=>
  obtain rfl:k=2:=hk
  have hl:(l.length:Int)=0:=hl
  rw[List.length_eq_zero_iff.1 (by omega:l.length=0)];rfl
theorem zFF{env:List En}{ctx:List Tm}{t x:Tm}{F:Int}{s:Tk}(h1:envI env=0)(h2:zDa env ctx=0)(h3:checkT t=0)(h4:0≤F∧F≤65536)(hx:tyB env ctx t (0,(F,0,[]))=(x,(0,s))):(zzQ env ctx t F).2.2.2=0∧(zzQ env ctx t F).1=x:=⟨(zFb (zGm h1 h2 h3 h4) hx).2,(zFb (zGm h1 h2 h3 h4) hx).1⟩
theorem zGD{env:List En}{ctx:List Tm}{a x y:Tm}(c1:checkT (.mk 11 0 [a,x,y])=0)(c2:checkT (.mk 12 0 [a,x])=0):
 ((zzQ env ctx (.mk 11 0 [a,x,y]) 119).2.2.2=0→(zzQ env ctx a 119).2.2.2=0∧(zzQ env ctx (.mk 11 0 [a,x,y]) 119).1=(zzQ env ctx a 119).1∧(zzQ env ctx (.mk 11 0 [a,x,y]) 119).1.kind=2)∧
 ((zzQ env ctx (.mk 12 0 [a,x]) 119).2.2.2=0→envI env=0∧(normR 0 (lookR env) a 119).2.2=0∧(normR 0 (lookR env) x 119).2.2=0∧(zzQ env ctx x 119).2.2.2=0∧
   (zzQ env ctx (.mk 12 0 [a,x]) 119).1=.mk 11 0 [(normR 0 (lookR env) a 119).1,(normR 0 (lookR env) x 119).1,(normR 0 (lookR env) x 119).1]∧(zzQ env ctx x 119).1=(normR 0 (lookR env) a 119).1):=by
 obtain⟨ca,cx⟩:=zzF (zGC (k:=12) (k':=6) (by decide) (by decide) c2)
 refine⟨fun h=>?_,fun h=>?_⟩
 ·obtain⟨hA,hx⟩:=zFM h
  obtain⟨hE,hcx,_,hF⟩:=zEg hA
  have hcs:=(zEh hcx).2
  generalize (zzQ env ctx (.mk 11 0 [a,x,y]) 119).1=w at hx⊢
  generalize (tyB env ctx (.mk 11 0 [a,x,y]) (0,(119,0,[]))).2.2=s' at hx
  have hx:typW (burnT (lookR env)) env (Tm.mk 11 0 [a,x,y]).size ctx (.mk 11 0 [a,x,y]) (0,(119,0,[]))=(w,(0,s')):=hx
  rw[zCI c1,zDh]at hx
  have hx:idW (burnT (lookR env)) (tyB env) ctx (.mk 11 0 [a,x,y]) (0,(119,0,[]))=(w,(0,s')):=hx
  unfold idW at hx
  obtain⟨i,s1,h1,h2⟩:=zCp hx fun _=>.bind (.norm _ _) fun _=>.bind (.of (Er.ty _ env) _ _ _) fun _=>.bind (.of (Er.ty _ env) _ _ _) fun _=>.pure _
  obtain⟨n,s2,_,h4⟩:=zCp h2 fun _=>.bind (.of (Er.ty _ env) _ _ _) fun _=>.bind (.of (Er.ty _ env) _ _ _) fun _=>.pure _
  obtain⟨b1,s3,_,h6⟩:=zCp h4 fun _=>.bind (.of (Er.ty _ env) _ _ _) fun _=>.pure _
  obtain⟨b2,s4,_,h8⟩:=zCp h6 fun _=>.pure _
  obtain⟨rfl,_⟩:=zDL h8
  obtain⟨u,hu,hk,rfl⟩:=zE5 h1
  have hu:tyB env ctx a (0,(119,0,[]))=(u,(0,s1)):=hu
  obtain⟨g1,g2⟩:=zFF hE hcx ca hF hu
  refine⟨g1,?_,rfl⟩
  rw[g2];exact(zHn (zHf hE hcs ca hu).1.1 hk).symm
 ·obtain⟨hA,hx⟩:=zFM h
  obtain⟨hE,hcx,_,hF⟩:=zEg hA
  have hcs:=(zEh hcx).2
  generalize (zzQ env ctx (.mk 12 0 [a,x]) 119).1=w at hx⊢
  generalize (tyB env ctx (.mk 12 0 [a,x]) (0,(119,0,[]))).2.2=s' at hx
  have hx:typW (burnT (lookR env)) env (Tm.mk 12 0 [a,x]).size ctx (.mk 12 0 [a,x]) (0,(119,0,[]))=(w,(0,s')):=hx
  rw[zCI c2,zDh]at hx
  have hx:zDr (burnT (lookR env)) (tyB env) ctx (.mk 12 0 [a,x]) (0,(119,0,[]))=(w,(0,s')):=hx
  unfold zDr at hx
  obtain⟨i,s1,h1,h2⟩:=zCp hx fun _=>.bind (.norm _ _) fun _=>.bind (.of (Er.ty _ env) _ _ _) fun _=>.bind (.norm _ _) fun _=>.right _
  obtain⟨n,s2,h3,h4⟩:=zCp h2 fun _=>.bind (.of (Er.ty _ env) _ _ _) fun _=>.bind (.norm _ _) fun _=>.right _
  obtain⟨b1,s3,h5,h6⟩:=zCp h4 fun _=>.bind (.norm _ _) fun _=>.right _
  obtain⟨m,s4,h7,h8⟩:=zCp h6 fun _=>.right _
  obtain⟨_,rfl,_⟩:=zGR h8
  obtain⟨u,hu,hk,_⟩:=zE5 h1
  have hu:tyB env ctx a (0,(119,0,[]))=(u,(0,s1)):=hu
  obtain⟨ps,p0,p1,rfl,_⟩:=zGZ (by omega) hu
  have h3:normW (burnT (lookR env)) a (0,(119-zB3 ps,0+zB3 ps,[]++ps))=(n,(0,s2)):=h3
  obtain⟨p,q1,rfl,q3⟩:=zFB h3 (F:=119) (by omega) (by omega) (by omega)
  have hox:tyB env ctx x _=(n,(0,s3)):=zHB h5
  have hL:(0:Int)≤119-zB3 ps-(p.length:Nat):=by
   rcases q3 with q|q
   ·omega
   ·rw[q];simp;omega
  obtain⟨qs,r0,r1,rfl,r3⟩:=zGZ hL hox
  have h7:normW (burnT (lookR env)) x (0,(119-zB3 ps-(p.length:Nat)-zB3 qs,_,_))=(m,(0,s4)):=h7
  obtain⟨p',q1',_,_⟩:=zFB h7 (F:=119) (by omega) (by omega) (by omega)
  obtain⟨g1,g2⟩:=zFF hE hcx cx hF (r3 119 0 [] (by omega) (by omega))
  rw[q1,q1',g2]
  exact⟨hE,rfl,rfl,g1,rfl,rfl⟩
theorem zFw{k n:Int}{l:List Tm}(h:formedT (.mk k n l)=true)(hk:k=2∨k=3):l=[]:=by
 simp only[formedT,Bool.and_eq_true,decide_eq_true_eq]at h
 have h3:=h.1.1
 rcases hk with rfl|rfl
 all_goals
  simp[kidsR]at h3
  exact h3
mutual
theorem zHh(by_ c:Int)(hb:0≤by_): ∀ (t:Tm) (v b e:Int),0≤b→formedT t=true→zbx t (v+b) c=true→v+b+by_+t.size≤65536→shE by_ 0 b t e=e
 | .mk k n l,v,b,e,h0,hf,hs,hz=>by
   have hsz:(Tm.mk k n l).size=1+sizes l:=(Tm.mk k n l).size_eq
   rw[shE]
   rw[zbx]at hs
   split
   ·rename_i hk
    rw[if_pos hk]at hs
    have:=of_decide_eq_true hs
    unfold shV
    rw[if_neg (by omega)]
   ·rename_i hk
    rw[if_neg hk]at hs
    have hl:zep l=true:=by simp only[formedT,Bool.and_eq_true]at hf;exact hf.2
    by_cases hk2:k=2∨k=3
    ·obtain rfl:=zFw hf hk2
     rw[zjr]
    ·rw[if_neg (by omega),if_neg (by omega)]at hs
     exact zE6 by_ c hb k l 0 v b e h0 hl hs (by rw[hsz]at hz;omega)
theorem zE6(by_ c:Int)(hb:0≤by_)(k:Int): ∀ (l:List Tm) (i v b e:Int),0≤b→zep l=true→zaD k i l (v+b) c=true→v+b+by_+(1+sizes l:Nat)≤65536→zjr by_ 0 k b i l e=e
 |[],_,_,_,_,_,_,_,_=>by rw[zjr]
 |t::l,i,v,b,e,h0,hf,hs,hz=>by
  rw[zep,Bool.and_eq_true]at hf
  rw[zaD,Bool.and_eq_true]at hs
  have hbn:=zw0 k i
  simp only[sizes]at hz
  rw[zjr,zHh by_ c hb t v (b+zU k i) e (by omega) hf.1 (by rw[←Int.add_assoc];exact hs.1) (by omega)]
  exact zE6 by_ c hb k l (i+1) v b e h0 hf.2 hs.2 (by omega)
end
end Go.Proofs.YtokfbblhjpfjkaaGreat
