/- Is nothing reduced at a term's places (ahead of one)? In plain words.; What is d -/
import Derived.Test.YtokfbblhjpfjkaaGreatGF
import Derived.Test.YtokfbblhjpfjkaaGreatGN
import Derived.Test.YtokfbblhjpfjkaaGreatGI
import Derived.Test.YtokfbblhjpfjkaaGreatGJ
namespace Go.Proofs.YtokfbblhjpfjkaaGreat
set_option linter.unusedSimpArgs false
set_option linter.unusedVariables false
open Go.Aw Go.RowKit
def zdm:List Int→List Int→Bool
 |i::a,j::b=>if i=j then zdm a b else decide (i <j)
 |a,b=>decide (a.length <b.length)
theorem zvG(a b:List Int): ∀ x:List Int,zdm (x++a) (x++b)=zdm a b
 |[]=>rfl
 |i::x=>by
  rw[List.cons_append,List.cons_append,zdm,if_pos rfl]
  exact zvG a b x
theorem zwK(x:List Int):zdm x x=false:=by
 have:=zvG [] [] x
 rw[List.append_nil]at this
 rw[this];rfl
def zv9(e:List Int)(bound:Bool)(x:List Int):Bool:=bound&& !zdm x e
mutual
def zkO(lk:Tm→Option (Tm×Int))(e:List Int)(bound:Bool):List Int→Tm→Bool
 |x,.mk k n l=>zv9 e bound x||((lk (.mk k n l)).isNone&&zbr lk e bound x 0 l)
def zbr(lk:Tm→Option (Tm×Int))(e:List Int)(bound:Bool):List Int→Int→List Tm→Bool
 |_,_,[]=>true
 |x,i,t::l=>zkO lk e bound (x++[i]) t&&zbr lk e bound x (i+1) l
end
theorem zwD(lk:Tm→Option (Tm×Int))(e:List Int)(bound:Bool)(x:List Int)(t:Tm):zkO lk e bound x t=(zv9 e bound x||((lk t).isNone&&zbr lk e bound x 0 t.kids)):=by
 cases t;rw[zkO];rfl
theorem zmJ(lk:Tm→Option (Tm×Int))(e:List Int)(bound:Bool)(x:List Int): ∀ (a b:List Tm) (i:Int),zbr lk e bound x i (a++b)=(zbr lk e bound x i a&&zbr lk e bound x (i+a.length) b)
 |[],b,i=>by simp[zbr]
 |t::a,b,i=>by
  rw[List.cons_append,zbr,zbr,zmJ lk e bound x a b (i+1),List.length_cons,Bool.and_assoc,show i+1+(a.length:Int)=i+((a.length+1:Nat):Int) by omega]
mutual
theorem zvp(lk:Tm→Option (Tm×Int))(e:List Int)(bound:Bool): ∀ (t:Tm) (x:List Int),zc0 lk t=none→zkO lk e bound x t=true
 | .mk k n l,x,h=>by
   rw[zc0]at h
   rw[zkO]
   split at h
   ·cases h
   ·rename_i q
    rw[q,zwd lk e bound l x 0 h];simp
theorem zwd(lk:Tm→Option (Tm×Int))(e:List Int)(bound:Bool): ∀ (l:List Tm) (x:List Int) (i:Int),zbj lk i l=none→zbr lk e bound x i l=true
 |[],x,i,h=>by rw[zbr]
 |t::l,x,i,h=>by
  rw[zbj]at h
  split at h
  ·cases h
  ·rename_i q
   rw[zbr,zvp lk e bound t _ q,zwd lk e bound l x (i+1) h];rfl
end
theorem zvO(lk:Tm→Option (Tm×Int))(x p:List Int)(j:Int): ∀ (l:List Tm) (i:Int),j <i→zbr lk (x++j::p) true x i l=true
 |[],i,h=>by rw[zbr]
 |t::l,i,h=>by
  have ha:zdm (x++[i]) (x++j::p)=false:=by
   rw[zvG,zdm,if_neg (by omega)]
   exact decide_eq_false (by omega)
  rw[zbr,zvO lk x p j l (i+1) (by omega),zwD]
  simp[zv9,ha]
mutual
theorem zwk(lk:Tm→Option (Tm×Int)): ∀ (t:Tm) (x p:List Int),zc0 lk t=some p→zkO lk (x++p) true x t=true
 | .mk k n l,x,p,h=>by
   rw[zc0]at h
   rw[zkO]
   split at h
   ·obtain rfl:=Option.some.inj h
    rw[List.append_nil]
    simp[zv9,zwK]
   ·rename_i q
    rw[q,zv5 lk l x 0 p h];simp
theorem zv5(lk:Tm→Option (Tm×Int)): ∀ (l:List Tm) (x:List Int) (i:Int) (p:List Int),zbj lk i l=some p→zbr lk (x++p) true x i l=true
 |[],x,i,p,h=>by rw[zbj]at h;cases h
 |t::l,x,i,p,h=>by
  rw[zbj]at h
  split at h
  ·rename_i p' q
   obtain rfl:=Option.some.inj h
   rw[zbr,zvO lk x p' i l (i+1) (by omega)]
   have:=zwk lk t (x++[i]) p' q
   rw[List.append_assoc]at this
   rw[show x++i::p'=x++([i]++p')from rfl,this];rfl
  ·rename_i q
   rw[zbr,zvp lk _ true t _ q,zv5 lk l x (i+1) p h];rfl
end
end Go.Proofs.YtokfbblhjpfjkaaGreat
namespace Go.Proofs.YtokfbblhjpfjkaaGreat
set_option linter.unusedSimpArgs false
set_option linter.unusedVariables false
open Go.Aw Go.RowKit
theorem zgD{t:Tm}(h:z8 t≠0):zb6 t=(zT,z8 t):=by unfold zb6;rw[if_pos h]
theorem zhE{t:Tm}(h:z8 t=0):zb6 t=(t,0):=by unfold zb6;rw[if_neg (by omega)]
theorem zsO(u v:Tm): ∀ (p:List Int) (t:Tm),(zaZ t p).isSome=true→setT (setT t p u) p v=setT t p v
 |[],t,_=>rfl
 |k::p,t,h=>by
  simp only[zaZ]at h
  split at h
  ·rename_i hk
   simp only[setT,zhz,zqe,zrF]
   rw[zjw _ _ (by omega),List.set_set,zsO u v p _ h]
  ·cases h
theorem zpi(chk:Int)(lk:Tm→Option (Tm×Int))(t:Tm)(p:List Int)(h0:chk=0)(h1:z8 t=0):doR chk lk t p=if(makeR lk t p).2≠0 then(zT,(makeR lk t p).2)else((makeR lk t p).1,0):=by
 unfold doR;rw[if_neg (by omega),if_neg (by omega)]
theorem zgB{lk:Tm→Option (Tm×Int)}{t v:Tm}{p:List Int}{r:Tm×Int}(hf:zaZ t p=some v)(hk:lk v=some r)(hr:r.2=0):makeR lk t p=zb6 (setT t p r.1):=by
 unfold makeR;simp only[hf,hk];rw[if_neg (by omega)]
theorem zgN(x:Tm):(if(zb6 x).2≠0 then(zT,(zb6 x).2)else((zb6 x).1,0))=zb6 x:=by
 by_cases h:z8 x=0
 ·rw[zhE h];rfl
 ·rw[zgD h,if_pos h]
theorem parts{chk:Int}{lk:Tm→Option (Tm×Int)}{t u:Tm}{p q:List Int}(h:(zvY t p u).2=0):
 ((doR chk lk u q).2≠0→(doR chk lk (zvY t p u).1 (p++q)).2=(doR chk lk u q).2∨(doR chk lk (zvY t p u).1 (p++q)).2≠0)∧
 ((doR chk lk u q).2=0→doR chk lk (zvY t p u).1 (p++q)=zvY (zvY t p u).1 p (doR chk lk u q).1):=by
 obtain⟨b1,b2,b3,b4,b5⟩:=ztX h
 rw[b5]
 generalize hW:setT t p u=W at b4
 have hfW:zaZ W p=some u:=by rw[←hW];exact zva u p t b3
 have hfq:zaZ W (p++q)=zaZ u q:=by rw[zeP,hfW];rfl
 have hsW: ∀ v,setT W (p++q) v=setT W p (setT u q v):=fun v=>ziP q v p W u hfW
 by_cases h0:chk=0
 ·rw[zpi chk lk u q h0 b2,zpi chk lk W (p++q) h0 b4]
  cases hf:zaZ u q with
  |none=>
   rw[hf]at hfq
   have m1:makeR lk u q=(zT,10):=by unfold makeR;rw[hf]
   have m2:makeR lk W (p++q)=(zT,10):=by unfold makeR;rw[hfq]
   rw[m1,m2]
   exact⟨fun _=>.inl rfl,fun e=>by cases e⟩
  |some v=>
   rw[hf]at hfq
   cases hk:lk v with
   |none=>
    have m1:makeR lk u q=(zT,10):=by unfold makeR;simp only[hf,hk]
    have m2:makeR lk W (p++q)=(zT,10):=by unfold makeR;simp only[hfq,hk]
    rw[m1,m2]
    exact⟨fun _=>.inl rfl,fun e=>by cases e⟩
   |some r=>
    by_cases hr:r.2=0
    ·rw[zgB hf hk hr,zgB hfq hk hr,zgN,zgN,hsW]
     by_cases hc:z8 (setT u q r.1)=0
     ·rw[zhE hc]
      refine⟨fun e=>absurd rfl e,fun _=>?_⟩
      unfold zvY
      rw[if_neg (by omega),if_neg (by simp only;omega),if_pos (by rw[hfW];rfl)]
     ·rw[zgD hc]
      refine⟨fun _=>.inr fun e=>hc ?_,fun e=>absurd e hc⟩
      by_cases hc2:z8 (setT W p (setT u q r.1))=0
      ·exact zql hc2 (zva _ p W (by rw[hfW];rfl))
      ·rw[zgD hc2]at e;exact absurd e hc2
    ·have m1:makeR lk u q=(zT,r.2):=by unfold makeR;simp only[hf,hk];rw[if_pos hr]
     have m2:makeR lk W (p++q)=(zT,r.2):=by unfold makeR;simp only[hfq,hk];rw[if_pos hr]
     rw[m1,m2]
     exact⟨fun _=>.inl rfl,fun e=>by rw[if_pos hr]at e;exact absurd e hr⟩
 ·have d1:doR chk lk u q=(zT,chk):=by unfold doR;rw[if_pos h0]
  have d2:doR chk lk W (p++q)=(zT,chk):=by unfold doR;rw[if_pos h0]
  rw[d1,d2]
  exact⟨fun _=>.inl rfl,fun e=>absurd e h0⟩
end Go.Proofs.YtokfbblhjpfjkaaGreat
namespace Go.Proofs.YtokfbblhjpfjkaaGreat
set_option linter.unusedSimpArgs false
set_option linter.unusedVariables false
open Go.Aw Go.RowKit
theorem zCf{lk:Tm→Option (Tm×Int)}{t:Tm}{p:List Int}(h:(makeR lk t p).2=0): ∃ u r,zaZ t p=some u∧lk u=some r∧r.2=0∧makeR lk t p=(setT t p r.1,0)∧z8 (setT t p r.1)=0:=by
 cases hf:zaZ t p with
 |none=>rw[show makeR lk t p=(zT,10) by unfold makeR;rw[hf]]at h;cases h
 |some u=>
  cases hk:lk u with
  |none=>rw[show makeR lk t p=(zT,10) by unfold makeR;simp only[hf,hk]]at h;cases h
  |some r=>
   by_cases hr:r.2=0
   ·have hm:=zgB hf hk hr
    rw[hm]at h
    by_cases hc:z8 (setT t p r.1)=0
    ·exact⟨u,r,rfl,hk,hr,by rw[hm,zhE hc],hc⟩
    ·rw[zgD hc]at h;exact absurd h hc
   ·rw[show makeR lk t p=(zT,r.2) by unfold makeR;simp only[hf,hk];rw[if_pos hr]]at h;exact absurd h hr
theorem zz1{lk:Tm→Option (Tm×Int)}{t:Tm}{i:Int}{p:List Int}(hi:0≤i∧i <t.kids.length)(h:(makeR lk t (i::p)).2=0):
 (makeR lk (t.kids.getD i.toNat zT) p).2=0∧(makeR lk t (i::p)).1=.mk t.kind t.num (t.kids.set i.toNat (makeR lk (t.kids.getD i.toNat zT) p).1):=by
 obtain⟨u,r,h1,h2,h3,h4,h5⟩:=zCf h
 simp only[zaZ]at h1
 rw[if_pos hi]at h1
 have hc:=zql (p:=[i]) h5 (u:=setT (t.kids.getD i.toNat zT) p r.1) (by
  simp only[setT,zaZ,zhz,List.length_set]
  rw[if_pos hi,zjw _ _ (by omega)])
 rw[zgB h1 h2 h3,zhE hc,h4]
 exact⟨rfl,rfl⟩
theorem zzk{lk:Tm→Option (Tm×Int)}{k n:Int}(P:Tm→Prop)(hP: ∀ a p,P a→zc0 lk a=some p→(makeR lk a p).2=0→P (makeR lk a p).1)(hno: ∀ a b,P a→lk (.mk k n [a,b])=none):
 ∀ (p:List (List Int)) (a b x:Tm),P a→zw9 lk (.mk k n [a,b]) p x→ ∃ q r y z,x=.mk k n [y,z]∧p.length=q.length+r.length∧zw9 lk a q y∧zw9 lk b r z∧P y
 |[],a,b,x,ha,h=>by
  obtain⟨rfl,h⟩:=h
  rw[zlA,hno a b ha]at h
  simp only[zhz,zbj]at h
  cases h1:zc0 lk a with
  |some p=>rw[h1]at h;cases h
  |none=>
   rw[h1]at h
   cases h2:zc0 lk b with
   |some p=>rw[h2]at h;cases h
   |none=>exact⟨[],[],a,b,rfl,rfl,⟨rfl,h1⟩,⟨rfl,h2⟩,ha⟩
 |x0::p,a,b,x,ha,h=>by
  obtain⟨h,hm,hc⟩:=h
  rw[zlA,hno a b ha]at h
  simp only[zhz,zbj]at h
  cases h1:zc0 lk a with
  |some p0=>
   rw[h1]at h
   obtain rfl:=Option.some.inj h
   obtain⟨g1,g2⟩:=zz1 (t:=.mk k n [a,b]) (i:=0) (by simp[zhz]) hm
   have g1:(makeR lk a p0).2=0:=g1
   have g2:(makeR lk (.mk k n [a,b]) (0::p0)).1=.mk k n [(makeR lk a p0).1,b]:=g2
   rw[g2]at hc
   obtain⟨q,r,y,z,e1,e2,e3,e4,e5⟩:=zzk P hP hno p _ b x (hP a p0 ha h1 g1) hc
   exact⟨p0::q,r,y,z,e1,by simp only[List.length_cons];omega,⟨h1,g1,e3⟩,e4,e5⟩
  |none=>
   rw[h1]at h
   cases h2:zc0 lk b with
   |none=>rw[h2]at h;cases h
   |some p0=>
    rw[h2]at h
    obtain rfl:=Option.some.inj h
    obtain⟨g1,g2⟩:=zz1 (t:=.mk k n [a,b]) (i:=0+1) (by simp[zhz]) hm
    have g1:(makeR lk b p0).2=0:=g1
    have g2:(makeR lk (.mk k n [a,b]) ((0+1)::p0)).1=.mk k n [a,(makeR lk b p0).1]:=g2
    rw[g2]at hc
    obtain⟨q,r,y,z,e1,e2,e3,e4,e5⟩:=zzk P hP hno p a _ x ha hc
    have hq:q=[]∧y=a:=by
     cases q with
     |nil=>exact⟨rfl,e3.1.symm⟩
     |cons q0 q=>have:=e3.1;rw[h1]at this;cases this
    obtain⟨rfl,rfl⟩:=hq
    exact⟨[],p0::r,y,z,e1,by simp only[List.length_cons,List.length_nil]at e2⊢;omega,e3,⟨h2,g1,e4⟩,e5⟩
theorem zxQ(f:Tm)(l:List Tm)(a:Tm):zaR f (l++[a])=.mk 6 0 [zaR f l,a]:=by simp[zaR]
inductive Sp (f:Tm):Nat→Tm→Prop
 |base:Sp f 0 f
 |app {m:Nat} {a b:Tm} (h:Sp f m a):Sp f (m+1) (.mk 6 0 [a,b])
theorem Sp.of(f:Tm): ∀ l:List Tm,Sp f l.length (zaR f l):=by
 intro l
 generalize hn:l.length=n
 induction n generalizing l with
 |zero=>obtain rfl:=List.length_eq_zero_iff.1 hn;exact .base
 |succ n ih=>
  have hne:l≠[]:=by intro q;subst q;cases hn
  obtain⟨l',a,rfl⟩: ∃ l' a,l=l'++[a]:=⟨l.dropLast,l.getLast hne,(List.dropLast_concat_getLast hne).symm⟩
  rw[zxQ]
  exact .app (ih l' (by simpa using hn))
theorem Sp.step{lk:Tm→Option (Tm×Int)}{f:Tm}(hno: ∀ n a,Sp f n a→lk a=none)(hfk:f.kids=[]): ∀ {n:Nat} {a:Tm} {p:List Int},Sp f n a→zc0 lk a=some p→(makeR lk a p).2=0→Sp f n (makeR lk a p).1:=by
 intro n
 induction n with
 |zero=>
  intro a p h hp hm
  cases h
  rw[zlA,hno 0 _ .base,hfk]at hp
  simp only[zbj]at hp
  cases hp
 |succ n ih=>
  intro a p h hp hm
  cases h with
  | @app m a b h=>
    rw[zlA,hno _ _ (.app h)]at hp
    simp only[zhz,zbj]at hp
    cases h1:zc0 lk a with
    |some p0=>
     rw[h1]at hp
     obtain rfl:=Option.some.inj hp
     obtain⟨g1,g2⟩:=zz1 (t:=.mk 6 0 [a,b]) (i:=0) (by simp[zhz]) hm
     have g1:(makeR lk a p0).2=0:=g1
     have g2:(makeR lk (.mk 6 0 [a,b]) (0::p0)).1=.mk 6 0 [(makeR lk a p0).1,b]:=g2
     rw[g2];exact .app (ih h h1 g1)
    |none=>
     rw[h1]at hp
     cases h2:zc0 lk b with
     |none=>rw[h2]at hp;cases hp
     |some p0=>
      rw[h2]at hp
      obtain rfl:=Option.some.inj hp
      obtain⟨g1,g2⟩:=zz1 (t:=.mk 6 0 [a,b]) (i:=0+1) (by simp[zhz]) hm
      have g2:(makeR lk (.mk 6 0 [a,b]) ((0+1)::p0)).1=.mk 6 0 [a,(makeR lk b p0).1]:=g2
      rw[g2];exact .app h
theorem zBF{lk:Tm→Option (Tm×Int)}{f:Tm}(hno: ∀ n a,Sp f n a→lk a=none)(hfk:f.kids=[]): ∀ (n:Nat) (l:List Tm) (p:List (List Int)) (x:Tm),l.length=n→zw9 lk (zaR f l) p x→
 ∃ k:List Tm,x=zaR f k∧k.length=l.length∧ ∀ (i:Nat) (a:Tm),l[i]? =some a→ ∃ q y,k[i]? =some y∧zw9 lk a q y∧q.length≤p.length:=by
 intro n
 induction n with
 |zero=>
  intro l p x hl h
  obtain rfl:=List.length_eq_zero_iff.1 hl
  cases p with
  |nil=>exact⟨[],h.1.symm,rfl,fun i a q=>by simp at q⟩
  |cons x0 p=>
   have:=h.1
   rw[show zaR f []=f from rfl,zlA,hno 0 _ .base,hfk]at this
   simp only[zbj]at this
   cases this
 |succ n ih=>
  intro l p x hl h
  have hne:l≠[]:=by intro q;subst q;cases hl
  obtain⟨l',a,rfl⟩: ∃ l' a,l=l'++[a]:=⟨l.dropLast,l.getLast hne,(List.dropLast_concat_getLast hne).symm⟩
  have hl':l'.length=n:=by simpa using hl
  rw[zxQ]at h
  obtain⟨q,r,y,z,e1,e2,e3,e4,e5⟩:=zzk (Sp f n) (fun a p ha hp hm=>Sp.step hno hfk ha hp hm) (fun a b ha=>hno _ _ (.app ha)) p _ a x (hl'▸Sp.of f l') h
  obtain⟨k,g1,g2,g3⟩:=ih l' q y hl' e3
  refine⟨k++[z],by rw[zxQ, ←g1];exact e1,by simp[g2],fun i b hb=>?_⟩
  by_cases hi:i <l'.length
  ·rw[List.getElem?_append_left hi]at hb
   obtain⟨q2,y2,f1,f2,f3⟩:=g3 i b hb
   exact⟨q2,y2,by rw[List.getElem?_append_left (by omega)];exact f1,f2,by omega⟩
  ·rw[List.getElem?_append_right (by omega)]at hb
   have hi2:i-l'.length=0:=by
    have:=(List.getElem?_eq_some_iff.1 hb).1
    simp at this;omega
   rw[hi2]at hb
   obtain rfl:=Option.some.inj hb
   exact⟨r,z,by rw[List.getElem?_append_right (by omega),show i-k.length=0 by omega];rfl,e4,by omega⟩
theorem zAc{lk:Tm→Option (Tm×Int)}: ∀ (n:Nat) (t:Tm) (ps:List (List Int)),goN lk n t ps=if(goN lk n t []).2.2=0 then((goN lk n t []).1,ps++(goN lk n t []).2.1,0)else(zT,[],(goN lk n t []).2.2):=by
 intro n
 induction n with
 |zero=>
  intro t ps
  cases h:zc0 lk t <;>simp[goN,h]
 |succ n ih=>
  intro t ps
  cases h:zc0 lk t with
  |none=>simp[goN,h]
  |some x=>
   by_cases hm:(makeR lk t x).2=0
   ·simp only[goN,h,hm,if_true]
    rw[ih _ (ps++[x]),ih _ ([]++[x])]
    by_cases hz:(goN lk n (makeR lk t x).1 []).2.2=0
    ·simp[hz]
    ·simp[hz]
   ·simp[goN,h,hm]
end Go.Proofs.YtokfbblhjpfjkaaGreat
namespace Go.Proofs.YtokfbblhjpfjkaaGreat
set_option linter.unusedSimpArgs false
set_option linter.unusedVariables false
open Go.Aw Go.RowKit
theorem zBU{lk:Tm→Option (Tm×Int)}{t:Tm}(hc:z8 t=0):normR 0 lk t 0=match zc0 lk t with|none=>(t,[],0)|some _=>(zT,[],7):=by
 rw[zyG hc (by omega) (by omega)];rfl
theorem zCh{lk:Tm→Option (Tm×Int)}{t:Tm}{n:Int}(hc:z8 t=0)(h:n <0∨65536 <n):normR 0 lk t n=(zT,[],1):=by
 unfold normR;rw[if_neg (by omega),if_neg (by omega),if_pos h]
theorem zz7{n:Nat}(h:n≤65535):z8 (.mk 3 (n:Int) [])=0:=zvv (by simp[Tm.size,sizes]) (by simp[Tm.depth,zbW]) (by simp[formedT,zep,inR,zdV];omega)
theorem zAK{env:List En}{n:Nat}{e:En}(he:env[n]? =some e):lookR env (.mk 3 (n:Int) [])=if e.kind=2 then some (e.body,0)else none:=by
 have h1:ofE env (.mk 3 (n:Int) [])=some e:=by
  unfold ofE
  rw[if_pos ⟨rfl,by show(0:Int)≤(n:Int);omega⟩]
  exact he
 unfold lookR
 rw[if_neg (by show ¬(3:Int)=6;decide),if_neg (by show ¬(3:Int)=9;decide),if_neg (by show ¬(3:Int)=10;decide),if_neg (by show ¬(3:Int)=13;decide),if_pos (show(Tm.mk 3 (n:Int) []).kind=3 from rfl),h1]
theorem zB4{env:List En}(hE:envI env=0){n:Nat}{e:En}(he:env[n]? =some e)(hk:e.kind=2):z8 e.body=0:=by
 have h:=(zez hE he).1
 unfold zcj at h
 rw[if_neg (by omega),if_pos hk]at h
 simp only[Bool.and_eq_true,zcY,decide_eq_true_eq]at h
 exact h.2.2.2.2.2.2.1
theorem zz5{lk:Tm→Option (Tm×Int)}{m:Nat}{t:Tm}{ps:List (List Int)}{p:List Int}(hp:zc0 lk t=some p)(hm:(makeR lk t p).2=0):goN lk (m+1) t ps=goN lk m (makeR lk t p).1 (ps++[p]):=by
 rw[goN,hp];simp only;rw[if_pos hm]
theorem zCl{lk:Tm→Option (Tm×Int)}{m:Nat}{t:Tm}{ps:List (List Int)}(hp:zc0 lk t=none):goN lk m t ps=(t,ps,0):=by cases m <;>rw[goN,hp]
theorem zBY{env:List En}(hE:envI env=0){n:Nat}{e:En}(he:env[n]? =some e)(hk:e.kind=2):
 normR 0 (lookR env) (.mk 3 (n:Int) []) 120=if(normR 0 (lookR env) e.body 119).2.2=0 then((normR 0 (lookR env) e.body 119).1,[]::(normR 0 (lookR env) e.body 119).2.1,0)else(zT,[],(normR 0 (lookR env) e.body 119).2.2):=by
 have hl:=ztU hE
 have hn:n <env.length:=(List.getElem?_eq_some_iff.1 he).1
 have hb:=zB4 hE he hk
 have hlk:=zAK he
 rw[if_pos hk]at hlk
 have hp:zc0 (lookR env) (.mk 3 (n:Int) [])=some []:=by rw[zlA,hlk]
 have hm:makeR (lookR env) (.mk 3 (n:Int) []) []=(e.body,0):=by
  rw[zgB (v:=.mk 3 (n:Int) []) rfl hlk rfl]
  exact zhE hb
 rw[zyG (zz7 (by omega)) (by omega) (by omega),zyG hb (by omega) (by omega)]
 have e1:goN (lookR env) (119+1) (.mk 3 (n:Int) []) []=goN (lookR env) 119 e.body [[]]:=by rw[zz5 hp (by rw[hm]),hm];rfl
 refine Eq.trans e1 ?_
 rw[zAc]
 rfl
theorem zBX{env:List En}(hE:envI env=0){n:Nat}{e:En}(he:env[n]? =some e)(hk:e.kind≠2):normR 0 (lookR env) (.mk 3 (n:Int) []) 120=(.mk 3 (n:Int) [],[],0):=by
 have hl:=ztU hE
 have hn:n <env.length:=(List.getElem?_eq_some_iff.1 he).1
 have hlk:=zAK he
 rw[if_neg hk]at hlk
 have hp:zc0 (lookR env) (.mk 3 (n:Int) [])=none:=by rw[zlA,hlk];rfl
 rw[zyG (zz7 (by omega)) (by omega) (by omega)]
 exact zCl hp
theorem zzu: ∀ (n:Nat) (t:Tm) (acc:List Tm),(spN n t acc).1=(spN n t []).1
 |0,t,acc=>rfl
 |n+1,t,acc=>by
  by_cases h2:zbC t 6=true
  ·obtain⟨f,a,hk⟩:=zb0 h2
   rw[zcn h2 hk,zcn h2 hk,zzu n f (acc++[a]),zzu n f ([]++[a])]
  ·have h2:zbC t 6=false:=by simpa using h2
   rw[zc5 h2,zc5 h2]
theorem Sp.head{f:Tm}(hf:f.kind≠6): ∀ {m:Nat} {t:Tm},Sp f m t→ ∀ n acc,t.size≤n→(spN n t acc).1=f:=by
 intro m
 induction m with
 |zero=>
  intro t h n acc _
  cases h
  rw[zc5 (by unfold zbC;rw[decide_eq_false hf];rfl)]
 |succ m ih=>
  intro t h n acc hn
  cases h with
  | @app m a b h=>
    have hs:(Tm.mk 6 0 [a,b]).size=1+(a.size+(b.size+0)):=by simp only[Tm.size,sizes];try omega
    cases n with
    |zero=>omega
    |succ n=>
     rw[zcn (t:=.mk 6 0 [a,b]) (f:=a) (a:=b) rfl rfl]
     exact ih h n _ (by have:=b.size_pos;omega)
theorem Sp.kind{f:Tm}: ∀ {m:Nat} {t:Tm},Sp f m t→t.kind=f.kind∨t.kind=6
 |_,_,.base=>.inl rfl
 |_,_,.app _=>.inr rfl
def zAh(env:List En)(f:Tm):Prop:=f.kids=[]∧(f.kind=1∨f.kind=3∧ ∀ e,ofE env f=some e→e.kind=1)
theorem zBW{env:List En}{f:Tm}(hf:zAh env f){m:Nat}{t:Tm}(h:Sp f m t):lookR env t=none:=by
 have hk6:f.kind≠6:=by rcases hf.2 with q|⟨q,_⟩ <;>omega
 cases h with
 |base=>
  unfold lookR
  rcases hf.2 with q|⟨q,hq⟩
  ·rw[q];rfl
  ·rw[if_neg (by omega),if_neg (by omega),if_neg (by omega),if_neg (by omega),if_pos q]
   cases ho:ofE env f with
   |none=>rfl
   |some e=>simp only;rw[if_neg (by rw[hq e ho];decide)]
 | @app m a b h=>
   have ha5:a.kind≠5:=by rcases h.kind with q|q <;>rcases hf.2 with r|⟨r,_⟩ <;>omega
   unfold lookR
   rw[if_pos (show(Tm.mk 6 0 [a,b]).kind=6 from rfl)]
   show(if a.kind=5 then _ else zbE env (.mk 6 0 [a,b]))=none
   rw[if_neg ha5]
   have hh:(zF (.mk 6 0 [a,b])).1=f:=Sp.head hk6 (.app h) _ _ (Nat.le_refl _)
   unfold zbE
   rw[hh]
   cases ho:ofE env f with
   |none=>rfl
   |some e=>
    rcases hf.2 with q|⟨q,hq⟩
    ·unfold ofE at ho
     rw[if_neg (fun r=>by omega)]at ho
     cases ho
    ·simp only
     rw[hq e ho];rfl
theorem zAb(env:List En)(n:Int)(l:List Tm):lookR env (.mk 4 n l)=none:=rfl
end Go.Proofs.YtokfbblhjpfjkaaGreat
