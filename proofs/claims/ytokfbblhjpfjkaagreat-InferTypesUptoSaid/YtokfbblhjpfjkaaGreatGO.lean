/- Is nothing reduced at a term's places (ahead of one)? In plain words.; What is d -/
import Derived.Test.YtokfbblhjpfjkaaGreatGF
import Derived.Test.YtokfbblhjpfjkaaGreatGN
import Derived.Test.YtokfbblhjpfjkaaGreatGI
import Derived.Test.YtokfbblhjpfjkaaGreatGJ
set_option linter.unusedSimpArgs false
set_option linter.unusedVariables false
namespace Go.Proofs.YtokfbblhjpfjkaaGreat
open Go.Aw Go.RowKit
def zdm:List Int→List Int→Bool
 |i::a,j::b=>if i=j then zdm a b else decide (i <j)
 |a,b=>decide (a.length <b.length)
theorem zvG(a b:List Int): ∀ x:List Int,zdm (x++a) (x++b)=zdm a b
 |[]=>rfl
 |i::x=>by
  rw[List.cons_append,List.cons_append,zdm,if_pos rfl]
  exact zvG a b x
theorem zwK(x:List Int):zdm x x=false:=by
 have:=zvG [] [] x
 rw[List.append_nil]at this
 rw[this];rfl
def zv9(e:List Int)(bound:Bool)(x:List Int):Bool:=bound&& !zdm x e
mutual
def zkO(lk:Tm→Option (Tm×Int))(e:List Int)(bound:Bool):List Int→Tm→Bool
 |x,.mk k n l=>zv9 e bound x||((lk (.mk k n l)).isNone&&zbr lk e bound x 0 l)
def zbr(lk:Tm→Option (Tm×Int))(e:List Int)(bound:Bool):List Int→Int→List Tm→Bool
 |_,_,[]=>true
 |x,i,t::l=>zkO lk e bound (x++[i]) t&&zbr lk e bound x (i+1) l
end
theorem zwD(lk:Tm→Option (Tm×Int))(e:List Int)(bound:Bool)(x:List Int)(t:Tm):zkO lk e bound x t=(zv9 e bound x||((lk t).isNone&&zbr lk e bound x 0 t.kids)):=by
 cases t;rw[zkO];rfl
theorem zmJ(lk:Tm→Option (Tm×Int))(e:List Int)(bound:Bool)(x:List Int): ∀ (a b:List Tm) (i:Int),zbr lk e bound x i (a++b)=(zbr lk e bound x i a&&zbr lk e bound x (i+a.length) b)
 |[],b,i=>by simp[zbr]
 |t::a,b,i=>by
  rw[List.cons_append,zbr,zbr,zmJ lk e bound x a b (i+1),List.length_cons,Bool.and_assoc,show i+1+(a.length:Int)=i+((a.length+1:Nat):Int) by omega]
mutual
theorem zvp(lk:Tm→Option (Tm×Int))(e:List Int)(bound:Bool): ∀ (t:Tm) (x:List Int),zc0 lk t=none→zkO lk e bound x t=true
 | .mk k n l,x,h=>by
   rw[zc0]at h
   rw[zkO]
   split at h
   ·cases h
   ·rename_i q
    rw[q,zwd lk e bound l x 0 h];simp
theorem zwd(lk:Tm→Option (Tm×Int))(e:List Int)(bound:Bool): ∀ (l:List Tm) (x:List Int) (i:Int),zbj lk i l=none→zbr lk e bound x i l=true
 |[],x,i,h=>by rw[zbr]
 |t::l,x,i,h=>by
  rw[zbj]at h
  split at h
  ·cases h
  ·rename_i q
   rw[zbr,zvp lk e bound t _ q,zwd lk e bound l x (i+1) h];rfl
end
theorem zvO(lk:Tm→Option (Tm×Int))(x p:List Int)(j:Int): ∀ (l:List Tm) (i:Int),j <i→zbr lk (x++j::p) true x i l=true
 |[],i,h=>by rw[zbr]
 |t::l,i,h=>by
  have ha:zdm (x++[i]) (x++j::p)=false:=by
   rw[zvG,zdm,if_neg (by omega)]
   exact decide_eq_false (by omega)
  rw[zbr,zvO lk x p j l (i+1) (by omega),zwD]
  simp[zv9,ha]
mutual
theorem zwk(lk:Tm→Option (Tm×Int)): ∀ (t:Tm) (x p:List Int),zc0 lk t=some p→zkO lk (x++p) true x t=true
 | .mk k n l,x,p,h=>by
   rw[zc0]at h
   rw[zkO]
   split at h
   ·obtain rfl:=Option.some.inj h
    rw[List.append_nil]
    simp[zv9,zwK]
   ·rename_i q
    rw[q,zv5 lk l x 0 p h];simp
theorem zv5(lk:Tm→Option (Tm×Int)): ∀ (l:List Tm) (x:List Int) (i:Int) (p:List Int),zbj lk i l=some p→zbr lk (x++p) true x i l=true
 |[],x,i,p,h=>by rw[zbj]at h;cases h
 |t::l,x,i,p,h=>by
  rw[zbj]at h
  split at h
  ·rename_i p' q
   obtain rfl:=Option.some.inj h
   rw[zbr,zvO lk x p' i l (i+1) (by omega)]
   have:=zwk lk t (x++[i]) p' q
   rw[List.append_assoc]at this
   rw[show x++i::p'=x++([i]++p')from rfl,this];rfl
  ·rename_i q
   rw[zbr,zvp lk _ true t _ q,zv5 lk l x (i+1) p h];rfl
end
end Go.Proofs.YtokfbblhjpfjkaaGreat
namespace Go.Proofs.YtokfbblhjpfjkaaGreat
open Go.Aw Go.RowKit
theorem zgD{t:Tm}(h:checkT t≠0):zb6 t=(zT,checkT t):=by unfold zb6;rw[if_pos h]
theorem zhE{t:Tm}(h:checkT t=0):zb6 t=(t,0):=by unfold zb6;rw[if_neg (by omega)]
theorem zsO(u v:Tm): ∀ (p:List Int) (t:Tm),(zaZ t p).isSome=true→setT (setT t p u) p v=setT t p v
 |[],t,_=>rfl
 |k::p,t,h=>by
  simp only[zaZ]at h
  split at h
  ·rename_i hk
   simp only[setT,zhz,zqe,zrF]
   rw[zjw _ _ (by omega),List.set_set,zsO u v p _ h]
  ·cases h
theorem zpi(chk:Int)(lk:Tm→Option (Tm×Int))(t:Tm)(p:List Int)(h0:chk=0)(h1:checkT t=0):doR chk lk t p=if(makeR lk t p).2≠0 then(zT,(makeR lk t p).2)else((makeR lk t p).1,0):=by
 unfold doR;rw[if_neg (by omega),if_neg (by omega)]
theorem zgB{lk:Tm→Option (Tm×Int)}{t v:Tm}{p:List Int}{r:Tm×Int}(hf:zaZ t p=some v)(hk:lk v=some r)(hr:r.2=0):makeR lk t p=zb6 (setT t p r.1):=by
 unfold makeR;simp only[hf,hk];rw[if_neg (by omega)]
theorem zgN(x:Tm):(if(zb6 x).2≠0 then(zT,(zb6 x).2)else((zb6 x).1,0))=zb6 x:=by
 by_cases h:checkT x=0
 ·rw[zhE h];rfl
 ·rw[zgD h,if_pos h]
theorem parts{chk:Int}{lk:Tm→Option (Tm×Int)}{t u:Tm}{p q:List Int}(h:(zvY t p u).2=0):
 ((doR chk lk u q).2≠0→(doR chk lk (zvY t p u).1 (p++q)).2=(doR chk lk u q).2∨(doR chk lk (zvY t p u).1 (p++q)).2≠0)∧
 ((doR chk lk u q).2=0→doR chk lk (zvY t p u).1 (p++q)=zvY (zvY t p u).1 p (doR chk lk u q).1):=by
 obtain⟨b1,b2,b3,b4,b5⟩:=ztX h
 rw[b5]
 generalize hW:setT t p u=W at b4
 have hfW:zaZ W p=some u:=by rw[←hW];exact zva u p t b3
 have hfq:zaZ W (p++q)=zaZ u q:=by rw[zeP,hfW];rfl
 have hsW: ∀ v,setT W (p++q) v=setT W p (setT u q v):=fun v=>ziP q v p W u hfW
 by_cases h0:chk=0
 ·rw[zpi chk lk u q h0 b2,zpi chk lk W (p++q) h0 b4]
  cases hf:zaZ u q with
  |none=>
   rw[hf]at hfq
   have m1:makeR lk u q=(zT,10):=by unfold makeR;rw[hf]
   have m2:makeR lk W (p++q)=(zT,10):=by unfold makeR;rw[hfq]
   rw[m1,m2]
   exact⟨fun _=>.inl rfl,fun e=>by cases e⟩
  |some v=>
   rw[hf]at hfq
   cases hk:lk v with
   |none=>
    have m1:makeR lk u q=(zT,10):=by unfold makeR;simp only[hf,hk]
    have m2:makeR lk W (p++q)=(zT,10):=by unfold makeR;simp only[hfq,hk]
    rw[m1,m2]
    exact⟨fun _=>.inl rfl,fun e=>by cases e⟩
   |some r=>
    by_cases hr:r.2=0
    ·rw[zgB hf hk hr,zgB hfq hk hr,zgN,zgN,hsW]
     by_cases hc:checkT (setT u q r.1)=0
     ·rw[zhE hc]
      refine⟨fun e=>absurd rfl e,fun _=>?_⟩
      unfold zvY
      rw[if_neg (by omega),if_neg (by simp only;omega),if_pos (by rw[hfW];rfl)]
     ·rw[zgD hc]
      refine⟨fun _=>.inr fun e=>hc ?_,fun e=>absurd e hc⟩
      by_cases hc2:checkT (setT W p (setT u q r.1))=0
      ·exact zql hc2 (zva _ p W (by rw[hfW];rfl))
      ·rw[zgD hc2]at e;exact absurd e hc2
    ·have m1:makeR lk u q=(zT,r.2):=by unfold makeR;simp only[hf,hk];rw[if_pos hr]
     have m2:makeR lk W (p++q)=(zT,r.2):=by unfold makeR;simp only[hfq,hk];rw[if_pos hr]
     rw[m1,m2]
     exact⟨fun _=>.inl rfl,fun e=>by rw[if_pos hr]at e;exact absurd e hr⟩
 ·have d1:doR chk lk u q=(zT,chk):=by unfold doR;rw[if_pos h0]
  have d2:doR chk lk W (p++q)=(zT,chk):=by unfold doR;rw[if_pos h0]
  rw[d1,d2]
  exact⟨fun _=>.inl rfl,fun e=>absurd e h0⟩
end Go.Proofs.YtokfbblhjpfjkaaGreat
namespace Go.Proofs.YtokfbblhjpfjkaaGreat
open Go.Aw Go.RowKit
theorem zCf{lk:Tm→Option (Tm×Int)}{t:Tm}{p:List Int}(h:(makeR lk t p).2=0): ∃ u r,zaZ t p=some u∧lk u=some r∧r.2=0∧makeR lk t p=(setT t p r.1,0)∧checkT (setT t p r.1)=0:=by
 cases hf:zaZ t p with
 |none=>rw[show makeR lk t p=(zT,10) by unfold makeR;rw[hf]]at h;cases h
 |some u=>
  cases hk:lk u with
  |none=>rw[show makeR lk t p=(zT,10) by unfold makeR;simp only[hf,hk]]at h;cases h
  |some r=>
   by_cases hr:r.2=0
   ·have hm:=zgB hf hk hr
    rw[hm]at h
    by_cases hc:checkT (setT t p r.1)=0
    ·exact⟨u,r,rfl,hk,hr,by rw[hm,zhE hc],hc⟩
    ·rw[zgD hc]at h;exact absurd h hc
   ·rw[show makeR lk t p=(zT,r.2) by unfold makeR;simp only[hf,hk];rw[if_pos hr]]at h;exact absurd h hr
theorem zz1{lk:Tm→Option (Tm×Int)}{t:Tm}{i:Int}{p:List Int}(hi:0≤i∧i <t.kids.length)(h:(makeR lk t (i::p)).2=0):
 (makeR lk (t.kids.getD i.toNat zT) p).2=0∧(makeR lk t (i::p)).1=.mk t.kind t.num (t.kids.set i.toNat (makeR lk (t.kids.getD i.toNat zT) p).1):=by
 obtain⟨u,r,h1,h2,h3,h4,h5⟩:=zCf h
 simp only[zaZ]at h1
 rw[if_pos hi]at h1
 have hc:=zql (p:=[i]) h5 (u:=setT (t.kids.getD i.toNat zT) p r.1) (by
  simp only[setT,zaZ,zhz,List.length_set]
  rw[if_pos hi,zjw _ _ (by omega)])
 rw[zgB h1 h2 h3,zhE hc,h4]
 exact⟨rfl,rfl⟩
theorem zxQ(f:Tm)(l:List Tm)(a:Tm):zaR f (l++[a])=.mk 6 0 [zaR f l,a]:=by simp[zaR]
inductive Sp (f:Tm):Nat→Tm→Prop
 |base:Sp f 0 f
 |app {m:Nat} {a b:Tm} (h:Sp f m a):Sp f (m+1) (.mk 6 0 [a,b])
theorem Sp.of(f:Tm): ∀ l:List Tm,Sp f l.length (zaR f l):=by
 intro l
 generalize hn:l.length=n
 induction n generalizing l with
 |zero=>obtain rfl:=List.length_eq_zero_iff.1 hn;exact .base
 |succ n ih=>
  have hne:l≠[]:=by intro q;subst q;cases hn
  obtain⟨l',a,rfl⟩: ∃ l' a,l=l'++[a]:=⟨l.dropLast,l.getLast hne,(List.dropLast_concat_getLast hne).symm⟩
  rw[zxQ]
  exact .app (ih l' (by simpa using hn))
theorem Sp.step{lk:Tm→Option (Tm×Int)}{f:Tm}(hno: ∀ n a,Sp f n a→lk a=none)(hfk:f.kids=[]): ∀ {n:Nat} {a:Tm} {p:List Int},Sp f n a→zc0 lk a=some p→(makeR lk a p).2=0→Sp f n (makeR lk a p).1:=by
 intro n
 induction n with
 |zero=>
  intro a p h hp hm
  cases h
  rw[zlA,hno 0 _ .base,hfk]at hp
  simp only[zbj]at hp
  cases hp
 |succ n ih=>
  intro a p h hp hm
  cases h with
  | @app m a b h=>
    rw[zlA,hno _ _ (.app h)]at hp
    simp only[zhz,zbj]at hp
    cases h1:zc0 lk a with
    |some p0=>
     rw[h1]at hp
     obtain rfl:=Option.some.inj hp
     obtain⟨g1,g2⟩:=zz1 (t:=.mk 6 0 [a,b]) (i:=0) (by simp[zhz]) hm
     have g1:(makeR lk a p0).2=0:=g1
     have g2:(makeR lk (.mk 6 0 [a,b]) (0::p0)).1=.mk 6 0 [(makeR lk a p0).1,b]:=g2
     rw[g2];exact .app (ih h h1 g1)
    |none=>
     rw[h1]at hp
     cases h2:zc0 lk b with
     |none=>rw[h2]at hp;cases hp
     |some p0=>
      rw[h2]at hp
      obtain rfl:=Option.some.inj hp
      obtain⟨g1,g2⟩:=zz1 (t:=.mk 6 0 [a,b]) (i:=0+1) (by simp[zhz]) hm
      have g2:(makeR lk (.mk 6 0 [a,b]) ((0+1)::p0)).1=.mk 6 0 [a,(makeR lk b p0).1]:=g2
      rw[g2];exact .app h
theorem zAc{lk:Tm→Option (Tm×Int)}: ∀ (n:Nat) (t:Tm) (ps:List (List Int)),goN lk n t ps=if(goN lk n t []).2.2=0 then((goN lk n t []).1,ps++(goN lk n t []).2.1,0)else(zT,[],(goN lk n t []).2.2):=by
 intro n
 induction n with
 |zero=>
  intro t ps
  cases h:zc0 lk t <;>simp[goN,h]
 |succ n ih=>
  intro t ps
  cases h:zc0 lk t with
  |none=>simp[goN,h]
  |some x=>
   by_cases hm:(makeR lk t x).2=0
   ·simp only[goN,h,hm,if_true]
    rw[ih _ (ps++[x]),ih _ ([]++[x])]
    by_cases hz:(goN lk n (makeR lk t x).1 []).2.2=0
    ·simp[hz]
    ·simp[hz]
   ·simp[goN,h,hm]
end Go.Proofs.YtokfbblhjpfjkaaGreat
namespace Go.Proofs.YtokfbblhjpfjkaaGreat
open Go.Aw Go.RowKit
theorem zz7{n:Nat}(h:n≤65535):checkT (.mk 3 (n:Int) [])=0:=zvv (by simp[Tm.size,sizes]) (by simp[Tm.depth,zbW]) (by simp[formedT,zep,inR,kidsR];omega)
theorem zz5{lk:Tm→Option (Tm×Int)}{m:Nat}{t:Tm}{ps:List (List Int)}{p:List Int}(hp:zc0 lk t=some p)(hm:(makeR lk t p).2=0):goN lk (m+1) t ps=goN lk m (makeR lk t p).1 (ps++[p]):=by
 rw[goN,hp];simp only;rw[if_pos hm]
theorem zzu: ∀ (n:Nat) (t:Tm) (acc:List Tm),(spN n t acc).1=(spN n t []).1
 |0,t,acc=>rfl
 |n+1,t,acc=>by
  by_cases h2:zbC t 6=true
  ·obtain⟨f,a,hk⟩:=zb0 h2
   rw[zcn h2 hk,zcn h2 hk,zzu n f (acc++[a]),zzu n f ([]++[a])]
  ·have h2:zbC t 6=false:=by simpa using h2
   rw[zc5 h2,zc5 h2]
theorem Sp.head{f:Tm}(hf:f.kind≠6): ∀ {m:Nat} {t:Tm},Sp f m t→ ∀ n acc,t.size≤n→(spN n t acc).1=f:=by
 intro m
 induction m with
 |zero=>
  intro t h n acc _
  cases h
  rw[zc5 (by unfold zbC;rw[decide_eq_false hf];rfl)]
 |succ m ih=>
  intro t h n acc hn
  cases h with
  | @app m a b h=>
    have hs:(Tm.mk 6 0 [a,b]).size=1+(a.size+(b.size+0)):=by simp only[Tm.size,sizes];try omega
    cases n with
    |zero=>omega
    |succ n=>
     rw[zcn (t:=.mk 6 0 [a,b]) (f:=a) (a:=b) rfl rfl]
     exact ih h n _ (by have:=b.size_pos;omega)
theorem Sp.kind{f:Tm}: ∀ {m:Nat} {t:Tm},Sp f m t→t.kind=f.kind∨t.kind=6
 |_,_,.base=>.inl rfl
 |_,_,.app _=>.inr rfl
def zAh(env:List En)(f:Tm):Prop:=f.kids=[]∧(f.kind=1∨f.kind=3∧ ∀ e,ofE env f=some e→e.kind=1)
theorem zAb(env:List En)(n:Int)(l:List Tm):lookR env (.mk 4 n l)=none:=rfl
end Go.Proofs.YtokfbblhjpfjkaaGreat
