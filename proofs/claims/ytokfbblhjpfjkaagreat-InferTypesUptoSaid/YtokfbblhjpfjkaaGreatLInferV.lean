/- A term that has a type is in scope of its context; so is the type. -/
import Derived.Test.YtokfbblhjpfjkaaGreatLInferC
import Derived.Test.YtokfbblhjpfjkaaGreatLScopeS
set_option linter.unusedSimpArgs false
set_option linter.unusedVariables false
namespace Go.Proofs.YtokfbblhjpfjkaaGreat
open Go.Aw Go.RowKit
theorem zCE{t:Tm}(h:checkT t=0):(t.kids.length:Int)=kidsR t.kind:=by
 have hf:=za9 t
 rw[(zcH h).2.2]at hf
 have:=hf.symm
 rw[Bool.and_eq_true,Bool.and_eq_true]at this
 exact of_decide_eq_true this.1.1
theorem zDy{k c:Int}: ∀ {l:List Tm} {i v:Int},(∀ (j:Nat) x,l[j]? =some x→zbx x (v+zU k (i+j)) c=true)→zaD k i l v c=true
 |[],_,_,_=>by rw[zaD]
 |t::l,i,v,h=>by
  rw[zaD,Bool.and_eq_true]
  refine⟨by simpa using h 0 t rfl,zDy fun j x hx=>?_⟩
  have:=h (j+1) x (by simpa using hx)
  rwa[show i+((j+1:Nat):Int)=i+1+(j:Int) by omega]at this
theorem zE4{t:Tm}{v c:Int}(h:checkT t=0)(hk:t.kind≠1∧t.kind≠2∧t.kind≠3)(hi: ∀ i:Nat,(i:Int) <kidsR t.kind→zbx (kidT t i) (v+zU t.kind i) c=true):zbx t v c=true:=by
 rw[zkm,if_neg hk.1,if_neg hk.2.1,if_neg hk.2.2]
 refine zDy fun j x hx=>?_
 have hj:=(List.getElem?_eq_some_iff.1 hx).1
 have hl:=zCE h
 have:=hi j (by omega)
 unfold kidT at this
 rw[List.getD_eq_getElem?_getD,hx]at this
 rw[Int.zero_add];exact this
theorem zCR{t:Tm}{v c:Int}(h:zbx t v c=true)(hk:t.kind≠1∧t.kind≠2∧t.kind≠3)(i:Nat):zbx (kidT t i) (v+zU t.kind i) c=true:=zb9 h hk i
theorem zER{n v c:Int}(h:n≤6):zbx (.mk 2 n []) v c=true:=by rw[zbx,if_neg (by decide),if_pos rfl];exact decide_eq_true h
theorem zGA{k:Int}{a b:Tm}{v c:Int}(hk:k=4∨k=7)(ha:zbx a v c=true)(hb:zbx b (v+1) c=true):zbx (.mk k 0 [a,b]) v c=true:=by
 rw[zbx,if_neg (by omega),if_neg (by omega),if_neg (by omega),zaD,zaD,zaD]
 rcases hk with rfl|rfl <;>simp[zU,ha,hb]
theorem zFI{k:Int}{l:List Tm}{v c:Int}(hk:k=9∨k=11∨k=12)(h: ∀ x,x∈l→zbx x v c=true):zbx (.mk k 0 l) v c=true:=by
 rw[zbx,if_neg (by omega),if_neg (by omega),if_neg (by omega)]
 refine zDy fun j x hx=>?_
 have:zU k (0+(j:Int))=0:=by unfold zU;rw[if_neg (by omega)]
 rw[this,Int.add_zero];exact h x (List.mem_of_getElem? hx)
theorem zD8{v c:Int}: ∀ (l:List Tm) (f:Tm),zbx f v c=true→(∀ a,a∈l→zbx a v c=true)→zbx (appsT f l) v c=true
 |[],f,hf,_=>hf
 |a::l,f,hf,h=>zD8 l (.mk 6 0 [f,a]) (zxO hf (h a List.mem_cons_self)) fun x hx=>h x (List.mem_cons_of_mem _ hx)
section
variable {σ α β:Type}
def NS(N:σ→Tm→Tm×Int×σ)(c:Int):Prop:= ∀ s t v,0≤v→(N s t).2.1=0→zbx t v c=true→zbx (N s t).1 v c=true
variable {N:σ→Tm→Tm×Int×σ} {c v:Int} (hN:NK N) (hS:NS N c) (hv:0≤v)
abbrev Sd(c v:Int)(u:Tm):Prop:=C0 u∧zbx u v c=true
include hN hS hv in
theorem Po.normS{t:Tm}(h:zbx t v c=true):Po (normW N t) (Sd c v):=by
 refine .ok fun s q=>?_
 have h2:(gotW ((N s t).1,(N s t).2.1) (0,(N s t).2.2)).2.1=0:=q
 have:=Po.got ((N s t).1,(N s t).2.1) (N s t).2.2 h2
 show Sd c v (gotW ((N s t).1,(N s t).2.1) (0,(N s t).2.2)).1
 rw[this.1];exact⟨hN.right s t this.2,hS s t v hv this.2 h⟩
include hN hS hv in
theorem Po.instS{b a:Tm}(hb:zbx b (v+1) c=true)(ha:zbx a v c=true):Po (instW N b a) (Sd c v):=.ok (.bind (.got _) (fun x hx=>.normS hN hS hv (by
 rw[hx.1]
 have:=zwI (args:=[a]) hx.2 hv (by simpa using hb) (fun y hy=>by obtain rfl:=List.mem_singleton.1 hy;exact ha)
 rwa[Int.add_zero]at this)) fun _=>.norm _ _)
theorem Po.shiftS{t:Tm}{b:Int}(h:zbx t v c=true):Po (σ:=σ) (zAz t b) (Sd c (v+b)):=.ok ((Po.got _).weak fun a h2=>by rw[h2.1];exact⟨zDf h2.2,zwV h2.2 h⟩)
theorem Po.rightS{t:Tm}(h:zbx t v c=true):Po (σ:=σ) (zCm t) (Sd c v):=.ok ((Po.got _).weak fun a h2=>by rw[h2.1];exact⟨h2.2,h⟩)
end
section
variable {σ:Type} {N:σ→Tm→Tm×Int×σ} {env:List En} (hN:NK N) (hS:NS N (env.length:Nat)) (he: ∀ e,e∈env→C0 e.typ∧zbx e.typ 0 (env.length:Nat)=true)
def CtxS(env:List En)(ctx:List Tm):Prop:= ∀ (i:Nat) x,ctx[i]? =some x→C0 x∧zbx x (i:Nat) (env.length:Nat)=true
theorem CtxS.snoc{ctx:List Tm}{a:Tm}(h:CtxS env ctx)(ha:Sd (env.length:Nat) (ctx.length:Nat) a):CtxS env (ctx++[a]):=by
 intro i x hx
 by_cases q:i <ctx.length
 ·rw[List.getElem?_append_left q]at hx;exact h i x hx
 ·have hl:=(List.getElem?_eq_some_iff.1 hx).1
  simp at hl
  have:i=ctx.length:=by omega
  subst this
  rw[List.getElem?_append_right (Nat.le_refl _),Nat.sub_self]at hx
  obtain rfl:=Option.some.inj (show some a=some x from hx);exact ha
abbrev Ts(env:List En)(ctx:List Tm)(t:Tm)(u:Tm):Prop:=Sd (env.length:Nat) (ctx.length:Nat) u∧zbx t (ctx.length:Nat) (env.length:Nat)=true
theorem Po.levelS{ty:List Tm→Tm→WM σ Tm}{ctx:List Tm}{t:Tm}(hty:Po (ty ctx t) (Ts env ctx t)):Po (zz4 ty ctx t) (fun i=>(0≤i∧i≤6)∧zbx t (ctx.length:Nat) (env.length:Nat)=true):=.bind hty (fun u hu=>.bind (.want _ _ (.inl (by omega))) (fun _ h=>.pure (by
 have hk:=of_decide_eq_true h.2
 refine⟨⟨(zGW hu.1.1 hk).1,?_⟩,hu.2⟩
 have:=hu.1.2
 rw[zkm,if_neg (by omega),if_pos hk]at this
 exact of_decide_eq_true this)) fun _=>.pure _) fun _=>.bind (.want _ _) fun _=>.pure _
theorem Po.ofS{ty:List Tm→Tm→WM σ Tm}{ctx:List Tm}{t typ:Tm}(hty:Po (ty ctx t) (Ts env ctx t)):Po (ofW ty ctx t typ) (fun ok=>ok=true∧zbx t (ctx.length:Nat) (env.length:Nat)=true):=.bind hty (fun u hu=>.ok ((Po.want _ _ (.inl (by omega))).weak fun _ h=>⟨h.1,hu.2⟩)) fun _=>.ok _ _
theorem Po.behindS{ctx:List Tm}{a:Tm}(h:CtxS env ctx)(ha:Sd (env.length:Nat) (ctx.length:Nat) a):Po (σ:=σ) (zBS ctx a) (fun c=>CtxS env c∧c=ctx++[a]):=.bind (.want _ _ (.inl (by omega))) (fun _ _=>.pure ⟨h.snoc ha,rfl⟩) fun _=>.pure _
include hN hS he
theorem Po.typS: ∀ (n:Nat) (ctx:List Tm) (t:Tm),t.size≤n→CtxS env ctx→C0 t→Po (typW N env n ctx t) (Ts env ctx t):=by
 intro n
 induction n with
 |zero=>intro ctx t h;have:=t.size_pos;omega
 |succ n ih=>
 intro ctx t hn hc ht
 have hv:(0:Int)≤(ctx.length:Nat):=Int.natCast_nonneg _
 have hEr:=Er.typ N env n
 have kid: ∀ {i:Nat} {c:List Tm},(i:Int) <kidsR t.kind→CtxS env c→Po (typW N env n c (kidT t i)) (Ts env c (kidT t i)):=fun hi hc=>ih _ _ (zCk ht hi hn) hc (zzT ht hi)
 generalize hty:typW N env n=ty at hEr kid
 have two: ∀ {k:Int},t.kind=k→k=4∨k=5∨k=7→zbx (kidT t 0) (ctx.length:Nat) (env.length:Nat)=true→zbx (kidT t 1) ((ctx.length:Nat)+1) (env.length:Nat)=true→zbx t (ctx.length:Nat) (env.length:Nat)=true:=by
  intro k hk hk2 h0 h1
  refine zE4 ht (by omega) fun i hi=>?_
  have h2:kidsR t.kind=2:=by rw[hk];rcases hk2 with rfl|rfl|rfl <;>decide
  rw[h2]at hi
  rw[hk]
  match i,hi with
  |0,_=>simpa[zU]using h0
  |1,_=>rcases hk2 with rfl|rfl|rfl <;>simpa[zU]using h1
  |i+2,h=>omega
 have flat: ∀ {k:Int},t.kind=k→k=6∨8≤k→(∀ i:Nat,(i:Int) <kidsR t.kind→zbx (kidT t i) (ctx.length:Nat) (env.length:Nat)=true)→zbx t (ctx.length:Nat) (env.length:Nat)=true:=by
  intro k hk hk2 h
  refine zE4 ht (by omega) fun i hi=>?_
  have:zU t.kind i=0:=by unfold zU;rw[if_neg (by omega)]
  rw[this,Int.add_zero];exact h i hi
 have bnd:t.kind=4∨t.kind=7→Po (zCx N ty ctx t) (Ts env ctx t):=fun hk=>by
  have h2:kidsR t.kind=2:=by rcases hk with q|q <;>rw[q] <;>decide
  refine .bind (.levelS (kid (i:=0) (by omega) hc)) (fun i hi=>.bind (.normS hN hS hv hi.2) (fun a ha=>.bind (.behindS hc ha) (fun c hcx=>.bind (.levelS (kid (i:=1) (by omega) hcx.1)) (fun j hj=>.pure ⟨⟨zDl (by omega) (by omega),zER (by omega)⟩,?_⟩)
   fun _=>.pure _) fun _=>.bind (.level hEr _ _) fun _=>.pure _) fun _=>.bind (.behind _ _) fun _=>.bind (.level hEr _ _) fun _=>.pure _) fun _=>.bind (.norm _ _) fun _=>.bind (.behind _ _) fun _=>.bind (.level hEr _ _) fun _=>.pure _
  have h3:=hj.2
  rw[hcx.2,List.length_append]at h3
  exact two rfl (by omega) hi.2 (by simpa using h3)
 show Po (okW zT (zCt N env (typW N env n) ctx t)) _
 rw[hty]
 refine .ok ?_
 unfold zCt
 by_cases k1:t.kind=1
 ·rw[if_pos k1]
  obtain⟨n0,n1⟩:=zDd ht (.inl k1)
  refine .need (by omega) (fun q=>?_) (.shift _ _)
  have q:=of_decide_eq_true q
  have hg:ctx[ctx.length-1-t.num.toNat]? =some (ctx.getD (ctx.length-1-t.num.toNat) zT):=by
   rw[List.getD_eq_getElem?_getD,List.getElem?_eq_getElem (by omega)];rfl
  refine(Po.shiftS (hc _ _ hg).2).weak fun u hu=>⟨?_,by rw[zkm,if_pos k1];exact decide_eq_true q⟩
  rwa[show(((ctx.length-1-t.num.toNat:Nat):Int))+(t.num+1)=(ctx.length:Nat) by omega]at hu
 rw[if_neg k1]
 by_cases k2:t.kind=2
 ·rw[if_pos k2]
  obtain⟨n0,n1⟩:=zDd ht (.inr (.inl k2))
  refine .bind (.want _ _ (.inl (by omega))) (fun _ h=>.pure ?_) fun _=>.pure _
  have h:=of_decide_eq_true h.2
  exact⟨⟨zDl (by omega) (by omega),zER (by omega)⟩,by rw[zkm,if_neg k1,if_pos k2];exact decide_eq_true (by omega)⟩
 rw[if_neg k2]
 by_cases k3:t.kind=3
 ·rw[if_pos k3]
  obtain⟨n0,n1⟩:=zDd ht (.inr (.inr k3))
  refine .need (by omega) (fun q=>.pure ?_) (.pure _)
  have q:=of_decide_eq_true q
  rw[List.getElem?_eq_getElem (show t.num.toNat <env.length by omega)]
  obtain⟨h1,h2⟩:=he _ (List.getElem_mem (show t.num.toNat <env.length by omega))
  exact⟨⟨h1,zv8 _ _ _ _ _ hv (Int.le_refl _) h2⟩,by rw[zkm,if_neg k1,if_neg k2,if_pos k3];exact decide_eq_true q⟩
 rw[if_neg k3]
 by_cases k4:t.kind=4
 ·rw[if_pos k4];exact bnd (.inl k4)
 rw[if_neg k4]
 by_cases k5:t.kind=5
 ·rw[if_pos k5]
  have hk:kidsR t.kind=2:=by rw[k5];decide
  refine .bind (.levelS (kid (i:=0) (by omega) hc)) (fun i hi=>.bind (.normS hN hS hv hi.2) (fun a ha=>.bind (.behindS hc ha) (fun c hcx=>.bind (kid (i:=1) (by omega) hcx.1) (fun b hb=>?_)
   fun _=>.right _) fun _=>.bind (hEr _ _) fun _=>.right _) fun _=>.bind (.behind _ _) fun _=>.bind (hEr _ _) fun _=>.right _) fun _=>.bind (.norm _ _) fun _=>.bind (.behind _ _) fun _=>.bind (hEr _ _) fun _=>.right _
  obtain⟨⟨hb1,hb2⟩,hb3⟩:=hb
  rw[hcx.2,List.length_append]at hb2 hb3
  exact(Po.rightS (zGA (.inl rfl) ha.2 (by simpa using hb2))).weak fun u hu=>⟨hu,two k5 (by omega) hi.2 (by simpa using hb3)⟩
 rw[if_neg k5]
 by_cases k6:t.kind=6
 ·rw[if_pos k6]
  have hk:kidsR t.kind=2:=by rw[k6];decide
  have e1: ∀ f:Tm,Er (zyN (ofW ty ctx (kidT t 1) (kidT f 0)) fun ok=>if ok=true then instW N (kidT f 1) (kidT t 1)else zzZ zT):=fun _=>.bind (.of hEr _ _ _) fun _=>.iff (.inst _ _ _) (.pure _)
  refine .bind (kid (i:=0) (by omega) hc) (fun f hf=>.need (by omega) (fun q=>.bind (.ofS (kid (i:=1) (by omega) hc)) (fun ok hok=>?_) fun _=>.iff (.inst _ _ _) (.pure _)) (e1 _)) fun _=>.need (e1 _)
  rw[if_pos hok.1]
  have q:=of_decide_eq_true q
  have hf1:=zCR hf.1.2 (by omega) 1
  rw[q]at hf1
  refine(Po.instS hN hS hv (by simpa[zU]using hf1) hok.2).weak fun u hu=>⟨hu,flat k6 (by omega) fun i hi=>?_⟩
  rw[hk]at hi
  match i,hi with
  |0,_=>exact hf.2
  |1,_=>exact hok.2
  |i+2,h=>omega
 rw[if_neg k6]
 by_cases k7:t.kind=7
 ·rw[if_pos k7];exact bnd (.inr k7)
 rw[if_neg k7]
 by_cases k8:t.kind=8
 ·rw[if_pos k8]
  have hk:kidsR t.kind=3:=by rw[k8];decide
  have e0: ∀ s b x:Tm,Er (σ:=σ) (zyN (wantW (decide (b=x)) 8) fun _=>zzZ s):=fun _ _ _=>.bind (.want _ _) fun _=>.pure _
  have e1: ∀ s b:Tm,Er (zyN (instW N (kidT s 1) (kidT t 1)) fun x=>zyN (wantW (decide (b=x)) 8) fun _=>zzZ s):=fun _ _=>.bind (.inst _ _ _) fun _=>e0 _ _ _
  have e2: ∀ s:Tm,Er (zyN (ty ctx (kidT t 2)) fun b=>zyN (instW N (kidT s 1) (kidT t 1)) fun x=>zyN (wantW (decide (b=x)) 8) fun _=>zzZ s):=fun _=>.bind (hEr _ _) fun _=>e1 _ _
  have e3: ∀ s:Tm,Er (zyN (ofW ty ctx (kidT t 1) (kidT s 0)) fun ok=>if ok=true then zyN (ty ctx (kidT t 2)) fun b=>zyN (instW N (kidT s 1) (kidT t 1)) fun x=>zyN (wantW (decide (b=x)) 8) fun _=>zzZ s else zzZ zT):=fun _=>.bind (.of hEr _ _ _) fun _=>.iff (e2 _) (.pure _)
  refine .bind (.levelS (kid (i:=0) (by omega) hc)) (fun _ hi=>.bind (.normS hN hS hv hi.2) (fun s hs=>.need (by omega) (fun q=>.bind (.ofS (kid (i:=1) (by omega) hc)) (fun ok hok=>?_) fun _=>.iff (e2 _) (.pure _)) (e3 _)) fun _=>.need (e3 _)) fun _=>.bind (.norm _ _) fun _=>.need (e3 _)
  rw[if_pos hok.1]
  refine .bind (kid (i:=2) (by omega) hc) (fun b hb=>.bind (.inst hN _ _) (fun x hx=>.bind (.want _ _ (.inl (by omega))) (fun _ _=>.pure ⟨hs,flat k8 (by omega) fun i hi2=>?_⟩) fun _=>.pure _) fun _=>e0 _ _ _) fun _=>e1 _ _
  rw[hk]at hi2
  match i,hi2 with
  |0,_=>exact hi.2
  |1,_=>exact hok.2
  |2,_=>exact hb.2
  |i+3,h=>omega
 rw[if_neg k8]
 by_cases k9:t.kind=9
 ·rw[if_pos k9]
  have hk:kidsR t.kind=1:=by rw[k9];decide
  refine .bind (kid (i:=0) (by omega) hc) (fun s hs=>.need (by omega) (fun q=>.pure ?_) (.pure _)) fun _=>.need (.pure _)
  have q:=of_decide_eq_true q
  have h0:=zCR hs.1.2 (by omega) 0
  rw[q]at h0
  refine⟨⟨zzT hs.1.1 (by rw[q];decide),by simpa[zU]using h0⟩,flat k9 (by omega) fun i hi=>?_⟩
  rw[hk]at hi
  match i,hi with
  |0,_=>exact hs.2
  |i+1,h=>omega
 rw[if_neg k9]
 by_cases k10:t.kind=10
 ·rw[if_pos k10]
  have hk:kidsR t.kind=1:=by rw[k10];decide
  refine .bind (kid (i:=0) (by omega) hc) (fun s hs=>.need (by omega) (fun q=>?_) (.inst _ _ _)) fun _=>.need (.inst _ _ _)
  have q:=of_decide_eq_true q
  have h1:=zCR hs.1.2 (by omega) 1
  rw[q]at h1
  refine(Po.instS hN hS hv (by simpa[zU]using h1) (zFI (.inl rfl) fun x hx=>by obtain rfl:=List.mem_singleton.1 hx;exact hs.2)).weak fun u hu=>⟨hu,flat k10 (by omega) fun i hi=>?_⟩
  rw[hk]at hi
  match i,hi with
  |0,_=>exact hs.2
  |i+1,h=>omega
 rw[if_neg k10]
 by_cases k11:t.kind=11
 ·rw[if_pos k11]
  have hk:kidsR t.kind=3:=by rw[k11];decide
  refine .bind (.levelS (kid (i:=0) (by omega) hc)) (fun i hi=>.bind (.normS hN hS hv hi.2) (fun a ha=>.bind (.ofS (kid (i:=1) (by omega) hc)) (fun _ h1=>.bind (.ofS (kid (i:=2) (by omega) hc)) (fun _ h2=>.pure ⟨⟨zDl (by omega) (by omega),zER (by omega)⟩,flat k11 (by omega) fun i2 hi2=>?_⟩)
   fun _=>.pure _) fun _=>.bind (.of hEr _ _ _) fun _=>.pure _) fun _=>.bind (.of hEr _ _ _) fun _=>.bind (.of hEr _ _ _) fun _=>.pure _) fun _=>.bind (.norm _ _) fun _=>.bind (.of hEr _ _ _) fun _=>.bind (.of hEr _ _ _) fun _=>.pure _
  rw[hk]at hi2
  match i2,hi2 with
  |0,_=>exact hi.2
  |1,_=>exact h1.2
  |2,_=>exact h2.2
  |i+3,h=>omega
 rw[if_neg k11]
 by_cases k12:t.kind=12
 ·rw[if_pos k12]
  have hk:kidsR t.kind=2:=by rw[k12];decide
  refine .bind (.levelS (kid (i:=0) (by omega) hc)) (fun i hi=>.bind (.normS hN hS hv hi.2) (fun a ha=>.bind (.ofS (kid (i:=1) (by omega) hc)) (fun _ h1=>.bind (.normS hN hS hv h1.2) (fun x hx=>(Po.rightS (zFI (.inr (.inl rfl)) fun y hy=>?_)).weak fun u hu=>⟨hu,flat k12 (by omega) fun i2 hi2=>?_⟩)
   fun _=>.right _) fun _=>.bind (.norm _ _) fun _=>.right _) fun _=>.bind (.of hEr _ _ _) fun _=>.bind (.norm _ _) fun _=>.right _) fun _=>.bind (.norm _ _) fun _=>.bind (.of hEr _ _ _) fun _=>.bind (.norm _ _) fun _=>.right _
  ·simp only[List.mem_cons,List.not_mem_nil,or_false]at hy
   rcases hy with rfl|rfl|rfl
   ·exact ha.2
   ·exact hx.2
   ·exact hx.2
  ·rw[hk]at hi2
   match i2,hi2 with
   |0,_=>exact hi.2
   |1,_=>exact h1.2
   |i+2,h=>omega
 rw[if_neg k12]
 have hk13:t.kind=13:=by
  have hl:=zCE ht
  unfold kidsR at hl
  repeat'(split at hl)
  all_goals omega
 have hk:kidsR t.kind=3:=by rw[hk13];decide
 have x1: ∀ (p d:Tm) (x:Tm),Er (zyN (wantW (decide (d=x)) 8) fun _=>normW N (appsT (kidT t 0) [kidT p 1,kidT p 2,kidT t 2])):=fun _ _ _=>.bind (.want _ _) fun _=>.norm _ _
 have x2: ∀ (p one d c1:Tm),Er (zyN (normW N (.mk 4 0 [kidT p 0,appsT c1 [.mk 1 0 [],.mk 1 0 [],.mk 12 0 [one,.mk 1 0 []]]])) fun x=>zyN (wantW (decide (d=x)) 8) fun _=>normW N (appsT (kidT t 0) [kidT p 1,kidT p 2,kidT t 2])):=fun _ _ _ _=>.bind (.norm _ _) fun _=>x1 _ _ _
 have x3: ∀ (p one d:Tm),Er (zyN (zAz (kidT t 0) 1) fun c1=>zyN (normW N (.mk 4 0 [kidT p 0,appsT c1 [.mk 1 0 [],.mk 1 0 [],.mk 12 0 [one,.mk 1 0 []]]])) fun x=>zyN (wantW (decide (d=x)) 8) fun _=>normW N (appsT (kidT t 0) [kidT p 1,kidT p 2,kidT t 2])):=fun _ _ _=>.bind (.shift _ _) fun _=>x2 _ _ _ _
 have x4: ∀ (p one:Tm),Er (zyN (ty ctx (kidT t 1)) fun d=>zyN (zAz (kidT t 0) 1) fun c1=>zyN (normW N (.mk 4 0 [kidT p 0,appsT c1 [.mk 1 0 [],.mk 1 0 [],.mk 12 0 [one,.mk 1 0 []]]])) fun x=>zyN (wantW (decide (d=x)) 8) fun _=>normW N (appsT (kidT t 0) [kidT p 1,kidT p 2,kidT t 2])):=fun _ _=>.bind (hEr _ _) fun _=>x3 _ _ _
 refine .bind (kid (i:=2) (by omega) hc) (fun p hp=>.need (by omega) (fun q=>.bind (.shift _ _) (fun one h1=>.bind (.shift _ _) (fun two h2=>.bind (kid (i:=0) (by omega) hc) (fun c hcc=>.ok (.need (by omega) (fun q=>.bind (kid (i:=1) (by omega) hc) (fun d hd=>.bind (.shift _ _) (fun c1 hc1=>.bind (.norm hN _) (fun x hx=>.bind (.want _ _ (.inl (by omega))) (fun _ _=>(Po.normS hN hS hv (zD8 _ _ hcc.2 fun y hy=>?_)).weak fun u hu=>⟨hu,flat hk13 (by omega) fun i2 hi2=>?_⟩) fun _=>.norm _ _) fun _=>x1 _ _ _) fun _=>x2 _ _ _ _) fun _=>x3 _ _ _) (x4 _ _)))
  fun _=>.ok _ _) fun _=>.bind (hEr _ _) fun _=>.ok _ _) fun _=>.bind (.shift _ _) fun _=>.bind (hEr _ _) fun _=>.ok _ _) (.bind (.shift _ _) fun _=>.bind (.shift _ _) fun _=>.bind (hEr _ _) fun _=>.ok _ _)) fun _=>.need (.bind (.shift _ _) fun _=>.bind (.shift _ _) fun _=>.bind (hEr _ _) fun _=>.ok _ _)
 ·have q:=of_decide_eq_true ‹decide (p.kind=11)=true›
  have p1:=zCR hp.1.2 (by omega) 1
  have p2:=zCR hp.1.2 (by omega) 2
  rw[q]at p1 p2
  simp only[List.mem_cons,List.not_mem_nil,or_false]at hy
  rcases hy with rfl|rfl|rfl
  ·simpa[zU]using p1
  ·simpa[zU]using p2
  ·exact hp.2
 ·rw[hk]at hi2
  match i2,hi2 with
  |0,_=>exact hcc.2
  |1,_=>exact hd.2
  |2,_=>exact hp.2
  |i+3,h=>omega
end
end Go.Proofs.YtokfbblhjpfjkaaGreat
