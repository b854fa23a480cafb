/- What types are worked out to is right by term.Check, where there is no error; an -/
import Derived.Test.YtokfbblhjpfjkaaGreatLInferL
import Derived.Test.YtokfbblhjpfjkaaGreatLInstC
import Derived.Test.YtokfbblhjpfjkaaGreatGF
import Derived.Test.YtokfbblhjpfjkaaGreatGI
set_option linter.unusedSimpArgs false
set_option linter.unusedVariables false
namespace Go.Proofs.YtokfbblhjpfjkaaGreat
open Go.Aw Go.RowKit
mutual
theorem zE8(c f:Int)(hc:0≤c): ∀ (t:Tm) (b e:Int),formedT t=true→shE c f b t e=0→e=0∧formedT (zeF (shF c f) b t)=true
 | .mk k n l,b,e,h,hz=>by
   rw[shE]at hz
   rw[zeF]
   split
   ·rename_i hk
    rw[if_pos hk]at hz
    obtain rfl:=zqM h hk
    subst hk
    have hn:=zvJ h
    unfold shV at hz
    unfold shF
    split at hz
    ·omega
    ·refine⟨hz,zvT ?_⟩
     split <;>omega
   ·rename_i hk
    rw[if_neg hk]at hz
    have hl:zep l=true:=by simp only[formedT,Bool.and_eq_true]at h;exact h.2
    obtain⟨h1,h2⟩:=zEU c f hc k b l 0 e hl hz
    exact⟨h1,zwz h (zv1 _ _ _ _ _) h2⟩
theorem zEU(c f:Int)(hc:0≤c)(k b:Int): ∀ (l:List Tm) (i e:Int),zep l=true→zjr c f k b i l e=0→e=0∧zep (mapTs (shF c f) k b i l)=true
 |[],i,e,_,hz=>by rw[zjr]at hz;rw[mapTs,zep];exact⟨hz,rfl⟩
 |t::l,i,e,h,hz=>by
  rw[zjr]at hz
  rw[zep,Bool.and_eq_true]at h
  obtain⟨h1,h2⟩:=zEU c f hc k b l (i+1) _ h.2 hz
  obtain⟨h3,h4⟩:=zE8 c f hc t _ _ h.1 h1
  rw[mapTs,zep,h4,h2];exact⟨h3,rfl⟩
end
mutual
theorem zFT(c f:Int): ∀ (t:Tm) (b:Int),formedT t=true→(zeF (shF c f) b t).depth=t.depth
 | .mk k n l,b,h=>by
   rw[zeF]
   split
   ·rename_i hk
    obtain rfl:=zqM h hk
    unfold shF
    simp[Tm.depth,zbW]
   ·have hl:zep l=true:=by simp only[formedT,Bool.and_eq_true]at h;exact h.2
    simp only[Tm.depth]
    rw[zFd c f k b l 0 hl]
theorem zFd(c f:Int)(k b:Int): ∀ (l:List Tm) (i:Int),zep l=true→zbW (mapTs (shF c f) k b i l)=zbW l
 |[],i,_=>by rw[mapTs]
 |t::l,i,h=>by
  rw[zep,Bool.and_eq_true]at h
  simp only[mapTs,zbW]
  rw[zFT c f t _ h.1,zFd c f k b l (i+1) h.2]
end
theorem zHq(c f b:Int)(t:Tm)(h:formedT t=true):(zeF (shF c f) b t).size=t.size:=zh2 _ (fun n b=>by simp[shF,Tm.size,sizes]) t b (fun hk=>by
 cases t with
 |mk k n l=>exact zqM h hk) h
theorem zDf{t:Tm}{by_ from_:Int}(h:(zbs t by_ from_).2=0):checkT (zbs t by_ from_).1=0:=by
 unfold zbs at h⊢
 split at h
 ·rename_i q;exact absurd h q
 ·rename_i q
  rw[if_neg q]
  split at h
  ·cases h
  ·rename_i q2
   rw[if_neg q2]
   split at h
   ·rename_i q3;exact absurd h q3
   ·rename_i q3
    rw[if_neg q3]
    obtain⟨c1,c2,c3⟩:=zcH (Classical.not_not.1 q)
    have hb:0≤by_:=by
     cases hm:zl3 by_ with
     |false=>rw[hm]at q2;exact absurd rfl q2
     |true=>unfold zl3 at hm;simp at hm;omega
    exact zvv (by rw[zHq _ _ _ _ c3];exact c1) (by rw[zFT _ _ _ _ c3];exact c2) (zE8 _ _ hb _ _ _ c3 (Classical.not_not.1 q3)).2
section
variable {σ α β:Type}
def Po(m:WM σ α)(Q:α→Prop):Prop:= ∀ s,(m (0,s)).2.1=0→Q (m (0,s)).1
theorem Po.bind{m:WM σ α}{f:α→WM σ β}{Q:α→Prop}{R:β→Prop}(h1:Po m Q)(h2: ∀ a,Q a→Po (f a) R)(h3: ∀ a,Er (f a)):Po (zyN m f) R:=by
 intro s h
 have eb:zyN m f (0,s)=f (m (0,s)).1 (m (0,s)).2:=rfl
 rw[eb]at h⊢
 by_cases hz:(m (0,s)).2.1=0
 ·have e1:(m (0,s)).2=(0,(m (0,s)).2.2):=Prod.ext hz rfl
  rw[e1]at h⊢
  exact h2 _ (h1 s hz) _ h
 ·have e1:(m (0,s)).2=((m (0,s)).2.1,(m (0,s)).2.2):=rfl
  rw[e1,h3 _ _ _ hz]at h
  exact absurd h hz
theorem Po.pure{a:α}{Q:α→Prop}(h:Q a):Po (σ:=σ) (zzZ a) Q:=fun _ _=>h
theorem Po.ok{z:α}{m:WM σ α}{Q:α→Prop}(h:Po m Q):Po (okW z m) Q:=by
 have: ∀ s,okW z m (0,s)=m (0,s):=fun s=>by unfold okW;rw[if_neg (by simp)]
 intro s
 rw[this];exact h s
theorem Po.want(b:Bool)(er:Int)(h:er≠0∨b=true):Po (σ:=σ) (wantW b er) (fun ok=>ok=true∧b=true):=by
 intro s q
 cases b
 ·unfold wantW at q
  rw[if_pos ⟨rfl,rfl⟩]at q
  exact absurd q (h.resolve_right (by simp))
 ·unfold wantW
  rw[if_neg (fun q=>by cases q.2)]
  exact⟨rfl,rfl⟩
theorem Po.got(r:Tm×Int):Po (σ:=σ) (gotW r) (fun t=>t=r.1∧r.2=0):=.bind (.want _ _ (by
 by_cases q:r.2=0
 ·exact .inr (by simp[q])
 ·exact .inl q)) (fun _ h=>.pure ⟨rfl,of_decide_eq_true h.2⟩) fun _=>.pure _
theorem Po.need{b:Bool}{er:Int}{m:WM σ Tm}{Q:Tm→Prop}(her:er≠0)(h:b=true→Po m Q)(he:Er m):Po (zBh b er m) Q:=.bind (.want b er (.inl her)) (fun ok hq=>by
 rw[if_pos hq.1];exact h hq.2) fun _=>.iff he (.pure _)
theorem Po.iff{b:Bool}{m k:WM σ α}{Q:α→Prop}(h:b=true→Po m Q)(h2:b=false→Po k Q):Po (if b=true then m else k) Q:=by
 cases b
 ·exact h2 rfl
 ·exact h rfl
theorem Po.weak{m:WM σ α}{Q R:α→Prop}(h:Po m Q)(k: ∀ a,Q a→R a):Po m R:=fun s q=>k _ (h s q)
structure NK (N:σ→Tm→Tm×Int×σ):Prop where
 right: ∀ s t,(N s t).2.1=0→checkT (N s t).1=0
 size: ∀ s t,(N s t).1.size≤6000
abbrev C0(t:Tm):Prop:=checkT t=0
variable {N:σ→Tm→Tm×Int×σ} (hN:NK N)
theorem Po.right(t:Tm):Po (σ:=σ) (zCm t) C0:=.ok ((Po.got _).weak fun a h=>by rw[h.1];exact h.2)
theorem Po.shift(t:Tm)(b:Int):Po (σ:=σ) (zAz t b) C0:=.ok ((Po.got _).weak fun a h=>by rw[h.1];exact zDf h.2)
include hN in
theorem Po.norm(t:Tm):Po (normW N t) C0:=by
 refine .ok fun s h=>?_
 have h2:(gotW ((N s t).1,(N s t).2.1) (0,(N s t).2.2)).2.1=0:=h
 have:=Po.got ((N s t).1,(N s t).2.1) (N s t).2.2 h2
 show checkT (gotW ((N s t).1,(N s t).2.1) (0,(N s t).2.2)).1=0
 rw[this.1];exact hN.right s t this.2
include hN in
theorem Po.inst(b a:Tm):Po (instW N b a) C0:=.ok (.bind (.got _) (fun _ _=>.norm hN _) fun _=>.norm _ _)
end
theorem zDl{i:Int}(h0:0≤i)(h1:i≤65535):checkT (.mk 2 i [])=0:=zvv (by simp[Tm.size,sizes]) (by simp[Tm.depth,zbW]) (by simp[formedT,zep,inR,kidsR];omega)
theorem zGW{t:Tm}(h:checkT t=0)(hk:t.kind=2):0≤t.num∧t.num≤65535:=by
 have:=(zcH h).2.2
 cases t with
 |mk k n l=>
  obtain rfl:k=2:=hk
  have hl:l=[]:=by
   have h2:=this
   simp only[formedT,Bool.and_eq_true,decide_eq_true_eq,kidsR]at h2
   have:=h2.1.1
   simp at this
   exact this
  subst hl
  simp[formedT,inR,kidsR]at this
  show 0≤n∧n≤65535
  omega
theorem zzT{t:Tm}(h:checkT t=0){i:Nat}(hi:(i:Int) <kidsR t.kind):checkT (kidT t i)=0:=by
 have hf:=za9 t
 rw[(zcH h).2.2]at hf
 have hl:(t.kids.length:Int)=kidsR t.kind:=by
  have:=hf.symm
  rw[Bool.and_eq_true,Bool.and_eq_true]at this
  exact of_decide_eq_true this.1.1
 refine zql (p:=[(i:Int)]) h ?_
 simp only[zaZ]
 rw[if_pos (by omega)]
 simp[kidT]
theorem zFt{l:List Tm}{i:Nat}(h:i <l.length):l.getD i zT∈l:=by
 rw[List.getD_eq_getElem?_getD,List.getElem?_eq_getElem h];exact List.getElem_mem h
section
variable {σ:Type} {N:σ→Tm→Tm×Int×σ} {env:List En} {ty:List Tm→Tm→WM σ Tm} {ctx:List Tm} {t:Tm}
theorem Po.level(hty:Po (ty ctx t) C0):Po (zz4 ty ctx t) (fun i=>0≤i∧i≤65535):=.bind hty (fun u hu=>.bind (.want _ _ (.inl (by omega))) (fun _ h=>.pure (zGW hu (of_decide_eq_true h.2))) fun _=>.pure _) fun _=>.bind (.want _ _) fun _=>.pure _
theorem Po.of{typ:Tm}(hty:Po (ty ctx t) C0):Po (ofW ty ctx t typ) (fun ok=>ok=true):=.bind hty (fun u hu=>.ok ((Po.want _ _ (.inl (by omega))).weak fun _ h=>h.1)) fun _=>.ok _ _
theorem Po.behind{a:Tm}(h: ∀ x,x∈ctx→C0 x)(ha:C0 a):Po (σ:=σ) (zBS ctx a) (fun c=>(∀ x,x∈c→C0 x)∧c=ctx++[a]):=.bind (.want _ _ (.inl (by omega))) (fun _ _=>.pure ⟨fun x hx=>by
 rcases List.mem_append.1 hx with q|q
 ·exact h x q
 ·obtain rfl:=List.mem_singleton.1 q;exact ha,rfl⟩) fun _=>.pure _
end
theorem zCk{t:Tm}(h:checkT t=0){i n:Nat}(hi:(i:Int) <kidsR t.kind)(hn:t.size≤n+1):(kidT t i).size≤n:=by
 have hf:=za9 t
 rw[(zcH h).2.2]at hf
 have hl:(t.kids.length:Int)=kidsR t.kind:=by
  have:=hf.symm
  rw[Bool.and_eq_true,Bool.and_eq_true]at this
  exact of_decide_eq_true this.1.1
 have hm:kidT t i∈t.kids:=zFt (by omega)
 have h1:=zK hm
 have h2:=t.size_eq
 omega
theorem zDd{t:Tm}(h:checkT t=0)(hk:t.kind=1∨t.kind=2∨t.kind=3):0≤t.num∧t.num≤65535:=by
 have:=(zcH h).2.2
 cases t with
 |mk k n l=>
  have hl:l=[]:=by
   have h2:=this
   simp only[formedT,Bool.and_eq_true,decide_eq_true_eq]at h2
   have h3:=h2.1.1
   rcases hk with rfl|rfl|rfl
   all_goals
    simp[kidsR]at h3
    exact h3
  subst hl
  have h4:inR n 0 65535=true:=by
   simp only[formedT,Bool.and_eq_true]at this
   have:=this.1.2.1
   simpa using this
  simp[inR]at h4
  show 0≤n∧n≤65535
  omega
section
variable {σ:Type} {N:σ→Tm→Tm×Int×σ} {env:List En} (hN:NK N) (he: ∀ e,e∈env→C0 e.typ)
include hN he
theorem Po.typ: ∀ (n:Nat) (ctx:List Tm) (t:Tm),t.size≤n→(∀ x,x∈ctx→C0 x)→C0 t→Po (typW N env n ctx t) C0:=by
 intro n
 induction n with
 |zero=>intro ctx t h;have:=t.size_pos;omega
 |succ n ih=>
 intro ctx t hn hc ht
 have hEr:=Er.typ N env n
 have kid: ∀ {i:Nat} {c:List Tm},(i:Int) <kidsR t.kind→(∀ x,x∈c→C0 x)→Po (typW N env n c (kidT t i)) C0:=fun hi hc=>ih _ _ (zCk ht hi hn) hc (zzT ht hi)
 generalize hty:typW N env n=ty at hEr kid
 have bnd:(1:Int) <kidsR t.kind→Po (zCx N ty ctx t) C0:=fun hk=>.bind (.level (kid (i:=0) (by omega) hc)) (fun i hi=>.bind (.norm hN _) (fun a ha=>.bind (.behind hc ha) (fun c hcx=>.bind (.level (kid (i:=1) hk hcx.1)) (fun j hj=>.pure (zDl (by omega) (by omega)))
  fun _=>.pure _) fun _=>.bind (.level hEr _ _) fun _=>.pure _) fun _=>.bind (.behind _ _) fun _=>.bind (.level hEr _ _) fun _=>.pure _) fun _=>.bind (.norm _ _) fun _=>.bind (.behind _ _) fun _=>.bind (.level hEr _ _) fun _=>.pure _
 show Po (okW zT (zCt N env (typW N env n) ctx t)) C0
 rw[hty]
 refine .ok ?_
 unfold zCt
 by_cases k1:t.kind=1
 ·rw[if_pos k1]
  exact .need (by omega) (fun _=>.shift _ _) (.shift _ _)
 rw[if_neg k1]
 by_cases k2:t.kind=2
 ·rw[if_pos k2]
  obtain⟨n0,n1⟩:=zDd ht (.inr (.inl k2))
  exact .bind (.want _ _ (.inl (by omega))) (fun _ h=>.pure (zDl (by omega) (by have:=of_decide_eq_true h.2;omega))) fun _=>.pure _
 rw[if_neg k2]
 by_cases k3:t.kind=3
 ·rw[if_pos k3]
  obtain⟨n0,n1⟩:=zDd ht (.inr (.inr k3))
  refine .need (by omega) (fun q=>.pure ?_) (.pure _)
  have q:=of_decide_eq_true q
  rw[List.getElem?_eq_getElem (show t.num.toNat <env.length by omega)]
  exact he _ (List.getElem_mem _)
 rw[if_neg k3]
 by_cases k4:t.kind=4
 ·rw[if_pos k4];exact bnd (by rw[k4];decide)
 rw[if_neg k4]
 by_cases k5:t.kind=5
 ·rw[if_pos k5]
  have hk:(1:Int) <kidsR t.kind:=by rw[k5];decide
  exact .bind (.level (kid (i:=0) (by omega) hc)) (fun i hi=>.bind (.norm hN _) (fun a ha=>.bind (.behind hc ha) (fun c hcx=>.bind (kid (i:=1) hk hcx.1) (fun j hj=>.right _)
   fun _=>.right _) fun _=>.bind (hEr _ _) fun _=>.right _) fun _=>.bind (.behind _ _) fun _=>.bind (hEr _ _) fun _=>.right _) fun _=>.bind (.norm _ _) fun _=>.bind (.behind _ _) fun _=>.bind (hEr _ _) fun _=>.right _
 rw[if_neg k5]
 by_cases k6:t.kind=6
 ·rw[if_pos k6]
  have hk:(1:Int) <kidsR t.kind:=by rw[k6];decide
  have e1: ∀ f:Tm,Er (zyN (ofW ty ctx (kidT t 1) (kidT f 0)) fun ok=>if ok=true then instW N (kidT f 1) (kidT t 1)else zzZ zT):=fun _=>.bind (.of hEr _ _ _) fun _=>.iff (.inst _ _ _) (.pure _)
  refine .bind (kid (i:=0) (by omega) hc) (fun f hf=>.need (by omega) (fun q=>.bind (.of (kid (i:=1) hk hc)) (fun ok hok=>?_) fun _=>.iff (.inst _ _ _) (.pure _)) (e1 _)) fun _=>.need (e1 _)
  rw[if_pos hok];exact .inst hN _ _
 rw[if_neg k6]
 by_cases k7:t.kind=7
 ·rw[if_pos k7];exact bnd (by rw[k7];decide)
 rw[if_neg k7]
 by_cases k8:t.kind=8
 ·rw[if_pos k8]
  have hk:(2:Int) <kidsR t.kind:=by rw[k8];decide
  have e0: ∀ s b x:Tm,Er (σ:=σ) (zyN (wantW (decide (b=x)) 8) fun _=>zzZ s):=fun _ _ _=>.bind (.want _ _) fun _=>.pure _
  have e1: ∀ s b:Tm,Er (zyN (instW N (kidT s 1) (kidT t 1)) fun x=>zyN (wantW (decide (b=x)) 8) fun _=>zzZ s):=fun _ _=>.bind (.inst _ _ _) fun _=>e0 _ _ _
  have e2: ∀ s:Tm,Er (zyN (ty ctx (kidT t 2)) fun b=>zyN (instW N (kidT s 1) (kidT t 1)) fun x=>zyN (wantW (decide (b=x)) 8) fun _=>zzZ s):=fun _=>.bind (hEr _ _) fun _=>e1 _ _
  have e3: ∀ s:Tm,Er (zyN (ofW ty ctx (kidT t 1) (kidT s 0)) fun ok=>if ok=true then zyN (ty ctx (kidT t 2)) fun b=>zyN (instW N (kidT s 1) (kidT t 1)) fun x=>zyN (wantW (decide (b=x)) 8) fun _=>zzZ s else zzZ zT):=fun _=>.bind (.of hEr _ _ _) fun _=>.iff (e2 _) (.pure _)
  refine .bind (.level (kid (i:=0) (by omega) hc)) (fun _ _=>.bind (.norm hN _) (fun s hs=>.need (by omega) (fun q=>.bind (.of (kid (i:=1) (by omega) hc)) (fun ok hok=>?_) fun _=>.iff (e2 _) (.pure _)) (e3 _)) fun _=>.need (e3 _)) fun _=>.bind (.norm _ _) fun _=>.need (e3 _)
  rw[if_pos hok]
  exact .bind (kid (i:=2) (by omega) hc) (fun b hb=>.bind (.inst hN _ _) (fun x hx=>.bind (.want _ _ (.inl (by omega))) (fun _ _=>.pure hs) fun _=>.pure _) fun _=>e0 _ _ _) fun _=>e1 _ _
 rw[if_neg k8]
 by_cases k9:t.kind=9
 ·rw[if_pos k9]
  exact .bind (kid (i:=0) (by rw[k9];decide) hc) (fun s hs=>.need (by omega) (fun q=>.pure (zzT hs (by rw[of_decide_eq_true q];decide))) (.pure _)) fun _=>.need (.pure _)
 rw[if_neg k9]
 by_cases k10:t.kind=10
 ·rw[if_pos k10]
  exact .bind (kid (i:=0) (by rw[k10];decide) hc) (fun s hs=>.need (by omega) (fun q=>.inst hN _ _) (.inst _ _ _)) fun _=>.need (.inst _ _ _)
 rw[if_neg k10]
 by_cases k11:t.kind=11
 ·rw[if_pos k11]
  have hk:(2:Int) <kidsR t.kind:=by rw[k11];decide
  exact .bind (.level (kid (i:=0) (by omega) hc)) (fun i hi=>.bind (.norm hN _) (fun a ha=>.bind (.of (kid (i:=1) (by omega) hc)) (fun _ _=>.bind (.of (kid (i:=2) hk hc)) (fun _ _=>.pure (zDl hi.1 hi.2))
   fun _=>.pure _) fun _=>.bind (.of hEr _ _ _) fun _=>.pure _) fun _=>.bind (.of hEr _ _ _) fun _=>.bind (.of hEr _ _ _) fun _=>.pure _) fun _=>.bind (.norm _ _) fun _=>.bind (.of hEr _ _ _) fun _=>.bind (.of hEr _ _ _) fun _=>.pure _
 rw[if_neg k11]
 by_cases k12:t.kind=12
 ·rw[if_pos k12]
  have hk:(1:Int) <kidsR t.kind:=by rw[k12];decide
  exact .bind (.level (kid (i:=0) (by omega) hc)) (fun i hi=>.bind (.norm hN _) (fun a ha=>.bind (.of (kid (i:=1) hk hc)) (fun _ _=>.bind (.norm hN _) (fun x hx=>.right _)
   fun _=>.right _) fun _=>.bind (.norm _ _) fun _=>.right _) fun _=>.bind (.of hEr _ _ _) fun _=>.bind (.norm _ _) fun _=>.right _) fun _=>.bind (.norm _ _) fun _=>.bind (.of hEr _ _ _) fun _=>.bind (.norm _ _) fun _=>.right _
 rw[if_neg k12]
 have hk13:t.kind=13:=by
  have hf:=za9 t
  rw[(zcH ht).2.2]at hf
  have hf:=hf.symm
  rw[Bool.and_eq_true,Bool.and_eq_true]at hf
  have hl:=of_decide_eq_true hf.1.1
  unfold kidsR at hl
  repeat'(split at hl)
  all_goals omega
 have hk:(2:Int) <kidsR t.kind:=by rw[hk13];decide
 have x1: ∀ (p d:Tm) (x:Tm),Er (zyN (wantW (decide (d=x)) 8) fun _=>normW N (appsT (kidT t 0) [kidT p 1,kidT p 2,kidT t 2])):=fun _ _ _=>.bind (.want _ _) fun _=>.norm _ _
 have x2: ∀ (p one d c1:Tm),Er (zyN (normW N (.mk 4 0 [kidT p 0,appsT c1 [.mk 1 0 [],.mk 1 0 [],.mk 12 0 [one,.mk 1 0 []]]])) fun x=>zyN (wantW (decide (d=x)) 8) fun _=>normW N (appsT (kidT t 0) [kidT p 1,kidT p 2,kidT t 2])):=fun _ _ _ _=>.bind (.norm _ _) fun _=>x1 _ _ _
 have x3: ∀ (p one d:Tm),Er (zyN (zAz (kidT t 0) 1) fun c1=>zyN (normW N (.mk 4 0 [kidT p 0,appsT c1 [.mk 1 0 [],.mk 1 0 [],.mk 12 0 [one,.mk 1 0 []]]])) fun x=>zyN (wantW (decide (d=x)) 8) fun _=>normW N (appsT (kidT t 0) [kidT p 1,kidT p 2,kidT t 2])):=fun _ _ _=>.bind (.shift _ _) fun _=>x2 _ _ _ _
 have x4: ∀ (p one:Tm),Er (zyN (ty ctx (kidT t 1)) fun d=>zyN (zAz (kidT t 0) 1) fun c1=>zyN (normW N (.mk 4 0 [kidT p 0,appsT c1 [.mk 1 0 [],.mk 1 0 [],.mk 12 0 [one,.mk 1 0 []]]])) fun x=>zyN (wantW (decide (d=x)) 8) fun _=>normW N (appsT (kidT t 0) [kidT p 1,kidT p 2,kidT t 2])):=fun _ _=>.bind (hEr _ _) fun _=>x3 _ _ _
 exact .bind (kid (i:=2) hk hc) (fun p hp=>.need (by omega) (fun q=>.bind (.shift _ _) (fun one h1=>.bind (.shift _ _) (fun two h2=>.bind (kid (i:=0) (by omega) hc) (fun c hcc=>.ok (.need (by omega) (fun q=>.bind (kid (i:=1) (by omega) hc) (fun d hd=>.bind (.shift _ _) (fun c1 hc1=>.bind (.norm hN _) (fun x hx=>.bind (.want _ _ (.inl (by omega))) (fun _ _=>.norm hN _) fun _=>.norm _ _) fun _=>x1 _ _ _) fun _=>x2 _ _ _ _) fun _=>x3 _ _ _) (x4 _ _)))
  fun _=>.ok _ _) fun _=>.bind (hEr _ _) fun _=>.ok _ _) fun _=>.bind (.shift _ _) fun _=>.bind (hEr _ _) fun _=>.ok _ _) (.bind (.shift _ _) fun _=>.bind (.shift _ _) fun _=>.bind (hEr _ _) fun _=>.ok _ _)) fun _=>.need (.bind (.shift _ _) fun _=>.bind (.shift _ _) fun _=>.bind (hEr _ _) fun _=>.ok _ _)
end
end Go.Proofs.YtokfbblhjpfjkaaGreat
