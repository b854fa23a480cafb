/- Several boxes lent to be written (they may point at one another): contracts, cal -/
import Derived.Test.YtokfbblhjpfjkaaGreatGB
namespace Go.Aw
open Go.RowKit
def lentBs(Bs:List BI):Bt:=fun i=>Bs[i]?
abbrev butLs(w:World)(Bs:List BI)(ks:List AB):Nat→Prop:=fun b=>b <w.heap.size∧ ∀ (j:Nat) B k,Bs[j]? =some B→ks[j]? =some k→k.live=true→b≠B.b
def okL(k:AB):Bool:=match k with
 | .gone=>true
 |k=>lendable k
theorem zCO{k:AB}(h:okL k=true):k=.gone∨lendable k=true:=by cases k <;>first|exact .inl rfl|exact .inr h
theorem zFi{p:Option BI}{k:AB}:okL (pinAB p k)=okL k:=by cases k <;>rfl
theorem zEv{β:Bt}{S:St}{w:World}{bi:BI}{k:AB}(h:okL k=true)(hl:k.live=true)(hb:BR β S w bi k): ∀ o,¬S bi.b o:=by
 rcases zCO h with rfl|h
 ·cases hl
 ·exact zcp h hb
def zD5:List Nat→Nat→Option Nat
 |[],_=>none
 |i::l,id=>match Nat.beq i id with
  |true=>some 0
  |false=>match zD5 l id with
   |some n=>some (n+1)
   |none=>none
theorem zDG: ∀ {l:List Nat} {id n:Nat},zD5 l id=some n→l[n]? =some id
 |[],id,n,h=>by cases h
 |i::l,id,n,h=>by
  simp only[zD5]at h
  split at h
  ·rename_i q;obtain rfl:=Nat.eq_of_beq_eq_true q;obtain rfl:=Option.some.inj h;rfl
  ·split at h
   ·rename_i m hm;obtain rfl:=Option.some.inj h;simpa using zDG hm
   ·cases h
def zGu(ids:List Nat):AV→Option AV
 | .ptr id off=>match zD5 ids id with
   |some n=>some (.ptr n off)
   |none=>none
 |x=>match zai x with
  |true=>some x
  |false=>none
def lend0s(ids:List Nat):List AV→Option (List AV)
 |[]=>some []
 |x::l=>match zGu ids x,lend0s ids l with
  |some y,some r=>some (y::r)
  |_,_=>none
def lendV(blk:Bk)(ids:List Nat):AV→Option AV
 | .fn f a b=>match lend0s ids a,lend0s ids b with
   |some a',some b'=>some (.fn f a' b')
   |_,_=>none
 | .ptr id off=>match zD5 ids id with
   |some n=>some (.ptr n off)
   |none=>argV blk (.ptr id off)
 | .arr id=>match zD5 ids id with
   |some n=>some (.arr n)
   |none=>argV blk (.arr id)
 |x=>argV blk x
def zCQ(blk:Bk)(ids:List Nat):List AV→Option (List AV)
 |[]=>some []
 |x::l=>match lendV blk ids x,zCQ blk ids l with
  |some y,some r=>some (y::r)
  |_,_=>none
def lendB(blk:Bk)(ids:List Nat):AB→Option AB
 | .bx _ c=>match zCQ blk ids c with
   |some c'=>some (.bx none c')
   |none=>none
 | .ar _ e es rows true=>some (.ar none e es rows true)
 | .mp _ n f=>some (.mp none n f)
 | .gone=>some .gone
 |_=>none
theorem zDZ{blk:Bk}{ids:List Nat}{p:Option BI}{k:AB}:lendB blk ids (pinAB p k)=lendB blk ids k:=by cases k <;>first|rfl|(rename_i wr;cases wr <;>rfl)
theorem zA7{blk:Bk}{ids:List Nat}{k k':AB}(h:lendB blk ids k=some k'):k'.live=k.live∧okL k=true∧okL k'=true:=by
 cases k with
 |bx p c=>
  simp only[lendB]at h
  split at h
  ·obtain rfl:=Option.some.inj h;exact⟨rfl,rfl,rfl⟩
  ·cases h
 |ar p e es rows wr=>cases wr <;>simp only[lendB]at h <;>first|(cases h;done)|(obtain rfl:=Option.some.inj h;exact⟨rfl,rfl,rfl⟩)
 |mp=>obtain rfl:=Option.some.inj h;exact⟨rfl,rfl,rfl⟩
 |gone=>obtain rfl:=Option.some.inj h;exact⟨rfl,rfl,rfl⟩
 |ro=>cases h
 |rob=>cases h
def zDN(β:Bt)(ids:List Nat)(Bs:List BI):Prop:= ∀ (j:Nat) id,ids[j]? =some id→ ∃ B,Bs[j]? =some B∧β id=some B
theorem zHe{β:Bt}{S:St}{w:World}{ids:List Nat}{Bs:List BI}(hL:zDN β ids Bs){v:Value}{x y:AV}(hv:VR β S w v x)(ha:zGu ids x=some y):VR (lentBs Bs) S w v y:=by
 by_cases e: ∃ id off,x=.ptr id off
 ·obtain⟨id,off,rfl⟩:=e
  simp only[zGu]at ha
  split at ha
  ·rename_i n q
   obtain rfl:=Option.some.inj ha
   cases hv with
   |ptr _ _ b2 hb=>
    obtain⟨B,h1,h2⟩:=hL n id (zDG q)
    rw[hb]at h2
    obtain rfl:=Option.some.inj h2
    exact .ptr n off _ h1
  ·cases ha
 ·have:zai x=true∧x=y:=by
   cases x <;>simp only[zGu]at ha <;>first
    |exact absurd ⟨_,_,rfl⟩ e
    |(split at ha
      ·exact⟨by assumption,Option.some.inj ha⟩
      ·cases ha)
  obtain⟨h1,rfl⟩:=this
  exact VR.up (zbp h1 hv)
theorem zC0{β:Bt}{S:St}{w:World}{ids:List Nat}{Bs:List BI}(hL:zDN β ids Bs): ∀ {xs ys:List AV} {cv:Nat→Value},lend0s ids xs=some ys→(∀ j,j <xs.length→VR β S w (cv j) (xs.getD j .any))→
 ys.length=xs.length∧ ∀ j,j <ys.length→VR (lentBs Bs) S w (cv j) (ys.getD j .any)
 |[],ys,cv,h,_=>by obtain rfl:=Option.some.inj h;exact⟨rfl,fun j hj=>by simp at hj⟩
 |x::l,ys,cv,h,hv=>by
  simp only[lend0s]at h
  split at h
  ·rename_i y r e1 e2
   obtain rfl:=Option.some.inj h
   obtain⟨q1,q2⟩:=zC0 hL (cv:=fun j=>cv (j+1)) e2 (fun j hj=>by simpa using hv (j+1) (by simpa using hj))
   refine⟨by simp[q1],fun j hj=>?_⟩
   cases j with
   |zero=>simpa using zHe hL (by simpa using hv 0 (by simp)) e1
   |succ j=>simpa using q2 j (by simpa using hj)
  ·cases h
theorem zFG{w0:B0}{w:World}{β:Bt}{S:St}{blk:Bk}(h:HR w0 β S blk w){ids:List Nat}{Bs:List BI}(hL:zDN β ids Bs){v:Value}{x y:AV}(hv:VR β S w v x)(ha:lendV blk ids x=some y):VR (lentBs Bs) S w v y:=by
 by_cases ef: ∃ f a b,x=.fn f a b
 ·obtain⟨f,a,b,rfl⟩:=ef
  simp only[lendV]at ha
  split at ha
  ·rename_i a' b' e1 e2
   obtain rfl:=Option.some.inj ha
   cases hv with
   |fn _ fi ca _ _ h1 h2 h3 h4=>
    obtain⟨q1,q2⟩:=zC0 hL (cv:=fun j=>fi.getD j undef) e1 h3
    obtain⟨q3,q4⟩:=zC0 hL (cv:=fun j=>ca.getD j undef) e2 h4
    exact .fn f fi ca a' b' (by omega) (by omega) q2 q4
  ·cases ha
 by_cases ep: ∃ id off,x=.ptr id off
 ·obtain⟨id,off,rfl⟩:=ep
  simp only[lendV]at ha
  split at ha
  ·rename_i n q
   obtain rfl:=Option.some.inj ha
   cases hv with
   |ptr _ _ b2 hb=>
    obtain⟨B,h1,h2⟩:=hL n id (zDG q)
    rw[hb]at h2
    obtain rfl:=Option.some.inj h2
    exact .ptr n off _ h1
  ·exact VR.up (zcb h hv ha)
 by_cases er: ∃ id,x=.arr id
 ·obtain⟨id,rfl⟩:=er
  simp only[lendV]at ha
  split at ha
  ·rename_i n q
   obtain rfl:=Option.some.inj ha
   cases hv with
   |arr _ b2 hb=>
    obtain⟨B,h1,h2⟩:=hL n id (zDG q)
    rw[hb]at h2
    obtain rfl:=Option.some.inj h2
    exact .arr n _ h1
  ·exact VR.up (zcb h hv ha)
 exact VR.up (zcb h hv (by cases x <;>first|exact ha|exact absurd ⟨_,_,_,rfl⟩ ef|exact absurd ⟨_,_,rfl⟩ ep|exact absurd ⟨_,rfl⟩ er))
theorem zFc{w0:B0}{w:World}{β:Bt}{S:St}{blk:Bk}(h:HR w0 β S blk w){ids:List Nat}{Bs:List BI}(hL:zDN β ids Bs): ∀ {xs ys:List AV} {cv:Nat→Value},zCQ blk ids xs=some ys→(∀ j,j <xs.length→VR β S w (cv j) (xs.getD j .any))→
 ys.length=xs.length∧ ∀ j,j <ys.length→VR (lentBs Bs) S w (cv j) (ys.getD j .any)
 |[],ys,cv,h1,_=>by obtain rfl:=Option.some.inj h1;exact⟨rfl,fun j hj=>by simp at hj⟩
 |x::l,ys,cv,h1,hv=>by
  simp only[zCQ]at h1
  split at h1
  ·rename_i y r e1 e2
   obtain rfl:=Option.some.inj h1
   obtain⟨q1,q2⟩:=zFc h hL (cv:=fun j=>cv (j+1)) e2 (fun j hj=>by simpa using hv (j+1) (by simpa using hj))
   refine⟨by simp[q1],fun j hj=>?_⟩
   cases j with
   |zero=>simpa using zFG h hL (by simpa using hv 0 (by simp)) e1
   |succ j=>simpa using q2 j (by simpa using hj)
  ·cases h1
theorem zEQ{w0:B0}{w:World}{β:Bt}{S:St}{blk:Bk}(h:HR w0 β S blk w){ids:List Nat}{Bs:List BI}(hL:zDN β ids Bs){bi:BI}{k k':AB}(hb:BR β S w bi k)(ha:lendB blk ids k=some k'):BR (lentBs Bs) S w bi (pinAB (some bi) k'):=by
 cases k with
 |bx p c=>
  simp only[lendB]at ha
  split at ha
  ·rename_i c' hc
   obtain rfl:=Option.some.inj ha
   obtain⟨cs,t,h1,h2,h3,h4,h5⟩:=hb
   obtain⟨q1,q2⟩:=zFc h hL (cv:=fun j=>cs.getD (0+j) undef) hc (fun j hj=>(h3 j hj).1)
   exact⟨cs,t,h1,by omega,fun j hj=>⟨q2 j hj,(h3 j (by omega)).2⟩,h4,fun B q=>Option.some.inj q⟩
  ·cases ha
 |ar p e es rows wr=>
  cases wr with
  |true=>
   obtain rfl:=Option.some.inj ha
   obtain⟨h1,h2,cs,h3,h4,h5,h6,h7,h8,h9,_⟩:=hb
   exact⟨h1,h2,cs,h3,h4,h5,h6,h7,h8,h9,fun B q=>Option.some.inj q⟩
  |false=>cases ha
 |mp p n f=>
  obtain rfl:=Option.some.inj ha
  obtain⟨es,cl,h1,h2,h3,_⟩:=hb
  exact⟨es,cl,h1,h2,h3,fun B q=>Option.some.inj q⟩
 |gone=>obtain rfl:=Option.some.inj ha;exact trivial
 |_=>cases ha
def zGn(ids:List Nat):AV→AV
 | .ptr j off=>.ptr (ids.getD j 0) off
 |x=>x
def zDY(ids:List Nat):List AV→List AV
 |[]=>[]
 |x::l=>zGn ids x::zDY ids l
def backV(ids:List Nat):AV→AV
 | .fn f a b=>.fn f (zDY ids a) (zDY ids b)
 | .ptr j off=>.ptr (ids.getD j 0) off
 | .arr j=>.arr (ids.getD j 0)
 |x=>x
def zEF(ids:List Nat):List AV→List AV
 |[]=>[]
 |x::l=>backV ids x::zEF ids l
def backB(ids:List Nat):AB→AB
 | .bx p c=>.bx p (zEF ids c)
 |k=>k
def zFo:AV→Bool
 | .ptr _ _=>true
 |x=>zai x
def zEL:AV→Bool
 | .fn _ a b=>a.all zFo&&b.all zFo
 | .ptr _ _=>true
 | .arr _=>true
 |x=>zai x
def plainB:AB→Bool
 | .bx _ c=>c.all zEL
 |_=>true
theorem zDz{ids:List Nat}{k:AB}:(backB ids k).live=k.live:=by cases k <;>rfl
theorem zCv(ids:List Nat): ∀ l:List AV,(zDY ids l).length=l.length
 |[]=>rfl
 |_::l=>congrArg (· +1) (zCv ids l)
theorem zCY(ids:List Nat): ∀ l:List AV,(zEF ids l).length=l.length
 |[]=>rfl
 |_::l=>congrArg (· +1) (zCY ids l)
theorem zDu(ids:List Nat): ∀ (l:List AV) (j:Nat),j <l.length→(zDY ids l).getD j .any=zGn ids (l.getD j .any)
 |x::l,0,_=>rfl
 |x::l,j+1,h=>by simpa[zDY]using zDu ids l j (by simpa using h)
theorem zEG(ids:List Nat): ∀ (l:List AV) (j:Nat),j <l.length→(zEF ids l).getD j .any=backV ids (l.getD j .any)
 |x::l,0,_=>rfl
 |x::l,j+1,h=>by simpa[zEF]using zEG ids l j (by simpa using h)
def Lied(β:Bt)(ids:List Nat)(Bs:List BI):Prop:=ids.length=Bs.length∧zDN β ids Bs
theorem Lied.get{β:Bt}{ids:List Nat}{Bs:List BI}(h:Lied β ids Bs){j:Nat}{B:BI}(hB:Bs[j]? =some B):β (ids.getD j 0)=some B:=by
 have hj:j <ids.length:=by have:=(List.getElem?_eq_some_iff.1 hB).1;have:=h.1;omega
 obtain⟨B',h1,h2⟩:=h.2 j ids[j] (List.getElem?_eq_getElem hj)
 rw[hB]at h1
 obtain rfl:=Option.some.inj h1
 rw[List.getD_eq_getElem?_getD,List.getElem?_eq_getElem hj];exact h2
theorem zFx{β:Bt}{S:St}{w:World}{ids:List Nat}{Bs:List BI}(hL:Lied β ids Bs){v:Value}{x:AV}(hp:zFo x=true)(hv:VR (lentBs Bs) S w v x):VR β S w v (zGn ids x):=by
 by_cases e: ∃ id off,x=.ptr id off
 ·obtain⟨id,off,rfl⟩:=e
  cases hv with
  |ptr _ _ b2 hb=>exact .ptr _ off b2 (hL.get hb)
 ·have e1:zai x=true:=by cases x <;>first|exact hp|exact absurd ⟨_,_,rfl⟩ e
  have e2:zGn ids x=x:=by cases x <;>first|rfl|exact absurd ⟨_,_,rfl⟩ e
  rw[e2];exact VR.up (zbp e1 hv)
theorem zG9{β:Bt}{S:St}{w:World}{ids:List Nat}{Bs:List BI}(hL:Lied β ids Bs){v:Value}{x:AV}(hp:zEL x=true)(hv:VR (lentBs Bs) S w v x):VR β S w v (backV ids x):=by
 by_cases ef: ∃ f a b,x=.fn f a b
 ·obtain⟨f,a,b,rfl⟩:=ef
  simp only[zEL,Bool.and_eq_true]at hp
  cases hv with
  |fn _ fi ca _ _ h1 h2 h3 h4=>
   refine .fn f fi ca _ _ (by rw[zCv];exact h1) (by rw[zCv];exact h2) (fun j hj=>?_) (fun j hj=>?_)
   ·rw[zCv]at hj
    rw[zDu ids a j hj];exact zFx hL (za7 hp.1 hj) (h3 j hj)
   ·rw[zCv]at hj
    rw[zDu ids b j hj];exact zFx hL (za7 hp.2 hj) (h4 j hj)
 by_cases e: ∃ id off,x=.ptr id off
 ·obtain⟨id,off,rfl⟩:=e
  cases hv with
  |ptr _ _ b2 hb=>exact .ptr _ off b2 (hL.get hb)
 by_cases er: ∃ id,x=.arr id
 ·obtain⟨id,rfl⟩:=er
  cases hv with
  |arr _ b2 hb=>exact .arr _ b2 (hL.get hb)
 have e1:zai x=true:=by cases x <;>first|exact hp|exact absurd ⟨_,_,rfl⟩ e|exact absurd ⟨_,rfl⟩ er|exact absurd ⟨_,_,_,rfl⟩ ef
 have e2:backV ids x=x:=by cases x <;>first|rfl|exact absurd ⟨_,_,rfl⟩ e|exact absurd ⟨_,rfl⟩ er|exact absurd ⟨_,_,_,rfl⟩ ef
 rw[e2];exact VR.up (zbp e1 hv)
theorem zEz{β:Bt}{S:St}{w:World}{ids:List Nat}{Bs:List BI}(hL:Lied β ids Bs){bi:BI}{k:AB}{p q:Option BI}(ho:okL k=true)(hp:plainB k=true)(hb:BR (lentBs Bs) S w bi (pinAB p k))(hq: ∀ B,q=some B→bi=B):BR β S w bi (pinAB q (backB ids k)):=by
 cases k with
 |bx p' c=>
  obtain⟨cs,t,h1,h2,h3,h4,_⟩:=hb
  refine⟨cs,t,h1,by rw[zCY];exact h2,fun j hj=>?_,h4,hq⟩
  rw[zCY]at hj
  rw[zEG ids c j hj]
  exact⟨zG9 hL (za7 hp hj) (h3 j hj).1,(h3 j hj).2⟩
 |ar p' e es rows wr=>obtain⟨h1,h2,cs,h3,h4,h5,h6,h7,h8,h9,_⟩:=hb;exact⟨h1,h2,cs,h3,h4,h5,h6,h7,h8,h9,hq⟩
 |mp p' n f=>obtain⟨es,cl,h1,h2,h3,_⟩:=hb;exact⟨es,cl,h1,h2,h3,hq⟩
 |gone=>exact trivial
 |ro=>cases ho
 |rob=>cases ho
structure ML (P:Program) (f:Nat) (args:List AV) (ks:List AB) (res:AV) (ks2:List AB):Prop where
 live:ks2.map AB.live=ks.map AB.live
 plain: ∀ k,k∈ks2→okL k=true∧plainB k=true
 pc: ∀ (w:World) (S0:St) (ca:Array Value) (Bs:List BI),(∀ b o,S0 b o→b <w.heap.size)→Bs.length=ks.length→
  (∀ (i j:Nat) (bi bj:BI) (ki kj:AB),i≠j→Bs[i]? =some bi→Bs[j]? =some bj→ks[i]? =some ki→ks[j]? =some kj→ki.live=true→kj.live=true→bi.b≠bj.b)→
  ca.size=args.length→(∀ j,j <args.length→VR (lentBs Bs) S0 w (ca.getD j undef) (args.getD j .any))→(∀ (j:Nat) k B,ks[j]? =some k→Bs[j]? =some B→BR (lentBs Bs) S0 w B (pinAB (some B) k))→
  Calls P f ca w fun e w'=> ∃ v S',e=.returned v∧BelowP (butLs w Bs ks) w w'∧(∀ b o,S0 b o→S' b o)∧(∀ b o,S' b o→b <w.heap.size→S0 b o)∧(∀ b o,S' b o→b <w'.heap.size)∧
   (∀ (j:Nat) k B,ks2[j]? =some k→Bs[j]? =some B→BR (lentBs Bs) S' w' B (pinAB (some B) k))∧VR nb S' w' v res
 fn: ∃ fn,P.funcs[f]? =some fn∧fn.body.isNone=false∧(fn.name=="runtime.NumGoroutine")=false
theorem HR.lents{w0:B0}{w w':World}{β:Bt}{S S':St}{blk blk':Bk}(h:HR w0 β S blk w){L:Nat→Prop}(hn: ∀ i,¬L i→blk' i=blk i)
 (hl: ∀ i,L i→ ∃ k k' bi,blk i=some k∧blk' i=some k'∧β i=some bi∧k'.live=k.live∧(k.live=true→ ∀ o,¬S bi.b o)∧BR β S' w' bi k')
 (hB:BelowP (fun b=>b <w.heap.size∧ ∀ i k bi,L i→blk i=some k→k.live=true→β i=some bi→b≠bi.b) w w') (h1: ∀ b o,S b o→S' b o) (h2: ∀ b o,S' b o→b <w.heap.size→S b o) (h3: ∀ b o,S' b o→b <w'.heap.size):
 HR w0 β S' blk' w'∧ ∀ {v x},VR β S w v x→VR β S' w' v x:=by
 have hSm: ∀ b o,S b o→S' b o∧w'.cell? ⟨b,o,none⟩=w.cell? ⟨b,o,none⟩:=fun b o q=>⟨h1 b o q,World.cell?_of_block (hB.block b ⟨h.hlt b o q,fun i k bi hL hk hlv hbi e=>by
  obtain⟨k2,_,b2,g1,_,g3,_,g5,_⟩:=hl i hL
  rw[hk]at g1
  obtain rfl:=Option.some.inj g1
  rw[hbi]at g3
  obtain rfl:=Option.some.inj g3
  exact g5 hlv o (e▸q)⟩)⟩
 have hv: ∀ {v x},VR β S w v x→VR β S' w' v x:=fun q=>q.mono (fun _ _ q=>q) hSm
 have hgs:w0.w.heap.size≤w.heap.size:=h.hbelow.size
 have hlv: ∀ i k',blk' i=some k'→k'.live=true→ ∃ k,blk i=some k∧k.live=true:=by
  intro i k' q lv
  by_cases hL:L i
  ·obtain⟨k,k2,bi,g1,g2,_,g4,_⟩:=hl i hL
   rw[q]at g2
   obtain rfl:=Option.some.inj g2
   exact⟨k,g1,by rw[←g4];exact lv⟩
  ·rw[hn i hL]at q;exact⟨k',q,lv⟩
 refine⟨⟨?_,?_,?_,fun b o q=>h1 b o (h.hold b o q),fun b o q hlo=>h.hnew b o (h2 b o q (by have:=w0.hlt0 b hlo;omega)) hlo,h3,?_⟩,hv⟩
 ·intro i kk q
  by_cases hL:L i
  ·obtain⟨k,k2,bi,g1,g2,g3,g4,g5,g6⟩:=hl i hL
   rw[q]at g2
   obtain rfl:=Option.some.inj g2
   obtain⟨b2,e1,_,e3⟩:=h.hblk i k g1
   rw[g3]at e1
   obtain rfl:=Option.some.inj e1
   exact⟨_,g3,g6,fun lv=>e3 (by rw[←g4];exact lv)⟩
  ·rw[hn i hL]at q
   obtain⟨b2,g1,g2,g3⟩:=h.hblk i kk q
   refine⟨b2,g1,g2.ext (fun _ _ q=>q) hSm (fun hl2=>hB.block _ ⟨g2.lt hl2,fun j k bj hLj hk hlvj hbj e=>?_⟩) (fun hl2 o q=>h2 _ o q (g2.lt hl2)),g3⟩
   exact h.hinj i j b2 bj kk k (fun e=>hL (e▸hLj)) q hl2 hk hlvj g1 hbj e
 ·intro i b q
  obtain⟨k2,hk2⟩:=h.hdom i b q
  by_cases hL:L i
  ·obtain⟨_,k',_,_,g2,_⟩:=hl i hL;exact⟨k',g2⟩
  ·exact⟨k2,by rw[hn i hL];exact hk2⟩
 ·intro i j b1 b2 k1 k2 hne q1 l1 q2 l2 p1 p2
  obtain⟨c1,d1,d2⟩:=hlv i k1 q1 l1
  obtain⟨c2,e1,e2⟩:=hlv j k2 q2 l2
  exact h.hinj i j b1 b2 c1 c2 hne d1 d2 e1 e2 p1 p2
 ·refine h.hbelow.trans ⟨hB.os,hB.tape,hB.output,hB.size,fun b hb=>hB.block b ⟨by have:=w0.hlt0 b hb;omega,fun i k bi hL hk hlvi hbi e=>?_⟩⟩
  obtain⟨b2,e1,_,e3⟩:=h.hblk i k hk
  rw[hbi]at e1
  obtain rfl:=Option.some.inj e1
  exact e3 hlvi (e▸hb)
end Go.Aw
namespace Go.Aw
open Go.RowKit
def lookL(blk:Bk):List Nat→List (Option BI)→List AB→Prop
 |[],[],[]=>True
 |i::l,p::ps,k::ks=>blk i=some (pinAB p k)∧lookL blk l ps ks
 |_,_,_=>False
def lendL(blk:Bk)(ids:List Nat):List AB→Option (List AB)
 |[]=>some []
 |k::ks=>match lendB blk ids k,lendL blk ids ks with
  |some y,some r=>some (y::r)
  |_,_=>none
def effL(ids:List Nat):List Nat→List (Option BI)→List AB→List (Nat×AB)
 |i::l,p::ps,k::ks=>(i,pinAB p (backB ids k))::effL ids l ps ks
 |_,_,_=>[]
def zCb:List Nat→Bool
 |[]=>true
 |i::l=> !(l.any (Nat.beq i))&&zCb l
theorem zCP: ∀ {l:List Nat},zCb l=true→ ∀ (i j:Nat) (a:Nat),l[i]? =some a→l[j]? =some a→i=j
 |[],_,i,j,a,h,_=>by simp at h
 |x::l,hn,i,j,a,h1,h2=>by
  simp only[zCb,Bool.and_eq_true,Bool.not_eq_true']at hn
  have no: ∀ k:Nat,l[k]? =some x→False:=by
   intro k q
   have:=List.mem_of_getElem? q
   have h:=List.any_eq_false.1 hn.1 x this
   simp at h
  cases i with
  |zero=>
   obtain rfl:=Option.some.inj (show some x=some a from h1)
   cases j with
   |zero=>rfl
   |succ j=>exact absurd (by simpa using h2) (no j)
  |succ i=>
   cases j with
   |zero=>
    obtain rfl:=Option.some.inj (show some x=some a from h2)
    exact absurd (by simpa using h1) (no i)
   |succ j=>exact congrArg (· +1) (zCP hn.2 i j a (by simpa using h1) (by simpa using h2))
theorem zC2{blk:Bk}: ∀ {ids:List Nat} {ps:List (Option BI)} {ks:List AB},lookL blk ids ps ks→ids.length=ks.length∧ps.length=ks.length∧ ∀ (j:Nat) (id:Nat),ids[j]? =some id→ ∃ p k,ps[j]? =some p∧ks[j]? =some k∧blk id=some (pinAB p k)
 |[],[],[],_=>⟨rfl,rfl,fun j id h=>by simp at h⟩
 |i::l,p::ps,k::ks,h=>by
  obtain⟨h1,h2⟩:=h
  obtain⟨q1,q2,q3⟩:=zC2 h2
  refine⟨by simp[q1],by simp[q2],fun j id hj=>?_⟩
  cases j with
  |zero=>obtain rfl:=Option.some.inj (show some i=some id from hj);exact⟨p,k,rfl,rfl,h1⟩
  |succ j=>simpa using q3 j id (by simpa using hj)
 |[],_::_,_,h=>h.elim
 |[],[],_::_,h=>h.elim
 |_::_,[],_,h=>h.elim
 |_::_,_::_,[],h=>h.elim
theorem zDw{s t':AS}(h:s.le t'): ∀ {ids:List Nat} {ps:List (Option BI)} {ks:List AB},lookL s.blk ids ps ks→lookL t'.blk ids ps ks
 |[],[],[],_=>trivial
 |_::_,_::_,_::_,q=>⟨h.2 _ _ q.1,zDw h q.2⟩
 |[],_::_,_,h=>h.elim
 |[],[],_::_,h=>h.elim
 |_::_,[],_,h=>h.elim
 |_::_,_::_,[],h=>h.elim
theorem zCZ{blk:Bk}{ids:List Nat}: ∀ {ks ks1:List AB},lendL blk ids ks=some ks1→ks1.length=ks.length∧ks1.map AB.live=ks.map AB.live∧ ∀ (j:Nat) k,ks[j]? =some k→ ∃ k1,ks1[j]? =some k1∧lendB blk ids k=some k1
 |[],ks1,h=>by obtain rfl:=Option.some.inj h;exact⟨rfl,rfl,fun j k q=>by simp at q⟩
 |x::l,ks1,h=>by
  simp only[lendL]at h
  split at h
  ·rename_i y r e1 e2
   obtain rfl:=Option.some.inj h
   obtain⟨q1,q2,q3⟩:=zCZ e2
   refine⟨by simp[q1],by simp[q2,(zA7 e1).1],fun j k hk=>?_⟩
   cases j with
   |zero=>obtain rfl:=Option.some.inj (show some x=some k from hk);exact⟨y,rfl,e1⟩
   |succ j=>simpa using q3 j k (by simpa using hk)
  ·cases h
theorem zEB{s t':AS}(h:s.le t'){ids:List Nat}{p q:AV}(hb:lendV s.blk ids p=some q):lendV t'.blk ids p=some q:=by
 by_cases ef: ∃ f a b,p=.fn f a b
 ·obtain⟨f,a,b,rfl⟩:=ef;exact hb
 by_cases ep: ∃ id off,p=.ptr id off
 ·obtain⟨id,off,rfl⟩:=ep
  simp only[lendV]at hb⊢
  split at hb
  ·exact hb
  ·exact zeC h hb
 by_cases er: ∃ id,p=.arr id
 ·obtain⟨id,rfl⟩:=er
  simp only[lendV]at hb⊢
  split at hb
  ·exact hb
  ·exact zeC h hb
 have e1: ∀ b,lendV b ids p=argV b p:=fun b=>by cases p <;>first|rfl|exact absurd ⟨_,_,_,rfl⟩ ef|exact absurd ⟨_,_,rfl⟩ ep|exact absurd ⟨_,rfl⟩ er
 rw[e1]at hb⊢;exact zeC h hb
theorem zD7{s t':AS}(h:s.le t'){ids:List Nat}: ∀ {p q:List AV},zCQ s.blk ids p=some q→zCQ t'.blk ids p=some q
 |[],q,hb=>hb
 |x::l,q,hb=>by
  simp only[zCQ]at hb⊢
  split at hb
  ·rename_i y r e1 e2
   rw[zEB h e1,zD7 h e2];exact hb
  ·cases hb
theorem zFZ{s t':AS}(h:s.le t'){ids:List Nat}{k k':AB}(hb:lendB s.blk ids k=some k'):lendB t'.blk ids k=some k':=by
 cases k with
 |bx p c=>
  simp only[lendB]at hb⊢
  split at hb
  ·rename_i c' hc;rw[zD7 h hc];exact hb
  ·cases hb
 |ar p e es rows wr=>cases wr <;>exact hb
 |_=>exact hb
theorem zDv{s t':AS}(h:s.le t'){ids:List Nat}: ∀ {ks ks1:List AB},lendL s.blk ids ks=some ks1→lendL t'.blk ids ks=some ks1
 |[],_,hb=>hb
 |x::l,_,hb=>by
  simp only[lendL]at hb⊢
  split at hb
  ·rename_i y r e1 e2
   rw[zFZ h e1,zDv h e2];exact hb
  ·cases hb
def zCy(s:AS)(ids:List Nat):List Operand→Option (List AV)
 |[]=>some []
 |x::l=>match evO s x with
  |some v=>match lendV s.blk ids v,zCy s ids l with
   |some y,some r=>some (y::r)
   |_,_=>none
  |none=>none
theorem zC7{s t':AS}(h:s.le t'){ids:List Nat}: ∀ {l:List Operand} {xs:List AV},zCy s ids l=some xs→zCy t' ids l=some xs
 |[],xs,hb=>hb
 |x::l,xs,hb=>by
  simp only[zCy]at hb⊢
  split at hb
  ·rename_i v hv
   rw[zV h hv]
   simp only
   split at hb
   ·rename_i y r e1 e2
    rw[zEB h e1,zC7 h e2];exact hb
   ·cases hb
  ·cases hb
theorem zDt{w0:B0}{nt:Nat}{s:AS}{w:World}{β:Bt}{S:St}{a:Act}(hs:SR w0 nt β S s a w){ids:List Nat}{Bs:List BI}(hL:zDN β ids Bs): ∀ {l:List Operand} {xs:List AV},zCy s ids l=some xs→l.length=xs.length∧
 ∀ j,j <xs.length→VR (lentBs Bs) S w ((l.map a.eval).getD j undef) (xs.getD j .any)
 |[],xs,h=>by obtain rfl:=Option.some.inj h;exact⟨rfl,fun j hj=>by simp at hj⟩
 |x::l,xs,h=>by
  simp only[zCy]at h
  split at h
  ·rename_i v hv
   split at h
   ·rename_i y r e1 e2
    obtain rfl:=Option.some.inj h
    obtain⟨q1,q2⟩:=zDt hs hL e2
    refine⟨by simp[q1],fun j hj=>?_⟩
    cases j with
    |zero=>simpa using zFG hs.hh hL (zah hs hv) e1
    |succ j=>simpa using q2 j (by simpa using hj)
   ·cases h
  ·cases h
theorem zEn(ids:List Nat): ∀ {l:List Nat} {ps:List (Option BI)} {ks:List AB} (p:Nat×AB),p∈effL ids l ps ks→p.1∈l
 |[],_,_,p,h=>by simp[effL]at h
 |_::_,[],_,p,h=>by simp[effL]at h
 |_::_,_::_,[],p,h=>by simp[effL]at h
 |i::l,q::ps,k::ks,p,h=>by
  rcases List.mem_cons.1 h with rfl|h
  ·exact .head _
  ·exact .tail _ (zEn ids p h)
theorem zEA{ids:List Nat}: ∀ {l:List Nat} {ps:List (Option BI)} {ks:List AB} {b:Bk},zCb l=true→l.length=ks.length→ps.length=ks.length→ ∀ (j:Nat) (id:Nat),l[j]? =some id→ ∃ p k,ps[j]? =some p∧ks[j]? =some k∧setBs b (effL ids l ps ks) id=some (pinAB p (backB ids k))
 |[],_,_,b,_,_,_,j,id,h=>by simp at h
 |i::l,[],ks,b,_,h1,h2,_,_,_=>by simp at h1 h2;omega
 |i::l,q::ps,[],b,_,h1,_,_,_,_=>by simp at h1
 |i::l,q::ps,k::ks,b,hn,h1,h2,j,id,hj=>by
  have hn':=hn
  simp only[zCb,Bool.and_eq_true]at hn
  cases j with
  |zero=>
   obtain rfl:=Option.some.inj (show some i=some id from hj)
   refine⟨q,k,rfl,rfl,?_⟩
   show setBs (upd b i (pinAB q (backB ids k))) (effL ids l ps ks) i=_
   rw[zfx (fun p hp e=>by
    have h3:=zEn ids p hp
    rw[e]at h3
    obtain⟨n,hn3⟩:=List.getElem?_of_mem h3
    have:=zCP hn' 0 (n+1) i rfl (by simpa using hn3)
    omega)]
   exact zR _ _ _
  |succ j=>
   obtain⟨p,k',g1,g2,g3⟩:=zEA (ids:=ids) (b:=upd b i (pinAB q (backB ids k))) hn.2 (by simpa using h1) (by simpa using h2) j id (by simpa using hj)
   exact⟨p,k',by simpa using g1,by simpa using g2,g3⟩
section
variable {P:Program} {ty:Ty} {w0:B0} {nt:Nat} {s:AS} {d:Option Nat} {t:TypeId} {pos:String} {af:Array Edge} {g:Option (Nat×Bool)}
theorem zF5{s:AS}{w w':World}{β:Bt}{S S':St}{a:Act}{ids:List Nat}{ps:List (Option BI)}{ks ks1 ks2:List AB}{Bs:List BI}(hs:SR w0 nt β S s a w)(hk:lookL s.blk ids ps ks)(hn:zCb ids=true)(hl:lendL s.blk ids ks=some ks1)
 (hBs:ids.length=Bs.length) (hL:zDN β ids Bs) (hlv:ks2.map AB.live=ks1.map AB.live) (hpl: ∀ k,k∈ks2→okL k=true∧plainB k=true)
 (hB:BelowP (butLs w Bs ks1) w w') (h1: ∀ b o,S b o→S' b o) (h2: ∀ b o,S' b o→b <w.heap.size→S b o) (h3: ∀ b o,S' b o→b <w'.heap.size)
 (hb2: ∀ (j:Nat) k B,ks2[j]? =some k→Bs[j]? =some B→BR (lentBs Bs) S' w' B (pinAB (some B) k)):SR w0 nt β S' ⟨s.env,setBs s.blk (effL ids ids ps ks2)⟩ a w':=by
 obtain⟨g1,g2,g3⟩:=zC2 hk
 obtain⟨l1,l2,l3⟩:=zCZ hl
 have hl2:ks2.length=ks1.length:=by simpa using congrArg List.length hlv
 have hLd:Lied β ids Bs:=⟨hBs,hL⟩
 have key: ∀ (j:Nat) id,ids[j]? =some id→ ∃ p k k1 k2 bi,ps[j]? =some p∧ks[j]? =some k∧ks1[j]? =some k1∧ks2[j]? =some k2∧Bs[j]? =some bi∧β id=some bi∧s.blk id=some (pinAB p k)∧lendB s.blk ids k=some k1∧k2.live=k1.live:=by
  intro j id hj
  obtain⟨p,k,e1,e2,e3⟩:=g3 j id hj
  obtain⟨k1,e4,e5⟩:=l3 j k e2
  obtain⟨bi,e6,e7⟩:=hL j id hj
  have hj2:j <ks2.length:=by have:=(List.getElem?_eq_some_iff.1 e4).1;omega
  have e8:=List.getElem?_eq_getElem hj2
  refine⟨p,k,k1,ks2[j],bi,e1,e2,e4,e8,e6,e7,e3,e5,?_⟩
  have:=congrArg (fun l=>l[j]?) hlv
  simp only[List.getElem?_map,e4,e8,Option.map_some]at this
  exact Option.some.inj this
 obtain⟨r1,r2⟩:=hs.hh.lents (blk':=setBs s.blk (effL ids ids ps ks2)) (L:=fun i=>i∈ids) (fun i hi=>zfx fun p hp e=>hi (e▸zEn ids p hp)) (fun i hi=>by
  obtain⟨j,hj⟩:=List.getElem?_of_mem hi
  obtain⟨p,k,k1,k2,bi,e1,e2,e3,e4,e5,e6,e7,e8,e9⟩:=key j i hj
  obtain⟨p',k',f1,f2,f3⟩:=zEA (ids:=ids) (ps:=ps) (ks:=ks2) (b:=s.blk) hn (by omega) (by omega) j i hj
  rw[e1]at f1
  rw[e4]at f2
  obtain rfl:=Option.some.inj f1
  obtain rfl:=Option.some.inj f2
  obtain⟨b2,c1,c2,_⟩:=hs.hh.hblk i _ e7
  rw[e6]at c1
  obtain rfl:=Option.some.inj c1
  obtain⟨m1,m2,m3⟩:=zA7 e8
  obtain⟨o1,o2⟩:=hpl _ (List.mem_of_getElem? e4)
  have hbr:BR β S' w' bi (pinAB p (backB ids k2)):=by
   rcases zCO m2 with rfl|hk3
   ·have hl2:k2.live=false:=by rw[e9,m1];rfl
    rcases zCO o1 with rfl|hg
    ·exact trivial
    ·rw[zco hg]at hl2;cases hl2
   ·refine zEz hLd o1 o2 (hb2 j k2 bi e4 e5) (fun B q=>c2.pinned B ?_)
    rw[←q]
    cases k <;>first|rfl|cases hk3
  exact⟨_,_,bi,e7,f3,e6,by rw[zAV,zAV,zDz,e9,m1],fun lv o=>zEv (by rw[zFi];exact m2) lv c2 o,hbr⟩)
  ⟨hB.os,hB.tape,hB.output,hB.size,fun b hb=>hB.block b ⟨hb.1,fun j B k1 q1 q2 q3=>by
   have hj:j <ids.length:=by have:=(List.getElem?_eq_some_iff.1 q1).1;omega
   obtain⟨p,k,k1',k2,bi,e1,e2,e3,e4,e5,e6,e7,e8,e9⟩:=key j _ (List.getElem?_eq_getElem hj)
   rw[q1]at e5
   rw[q2]at e3
   obtain rfl:=Option.some.inj e5
   obtain rfl:=Option.some.inj e3
   exact hb.2 _ _ _ (List.getElem_mem hj) e7 (by rw[zAV, ←(zA7 e8).1];exact q3) e6⟩⟩ h1 h2 h3
 exact⟨r1,fun u z q=>r2 (hs.henv u z q),hs.hsize,hs.hdefers⟩
theorem ML.call{f:Nat}{ids:List Nat}{ps:List (Option BI)}{ks ks1 ks2:List AB}{ca:Array Value}{xs:List AV}{res:AV}{s:AS}{w:World}{β:Bt}{S:St}{a:Act}{R:Ending→World→Prop}(hc:ML P f xs ks1 res ks2)(hs:SR w0 nt β S s a w)(hk:lookL s.blk ids ps ks)(hn:zCb ids=true)(hl:lendL s.blk ids ks=some ks1)
 (ha: ∀ Bs,zDN β ids Bs→ca.size=xs.length∧ ∀ j,j <xs.length→VR (lentBs Bs) S w (ca.getD j undef) (xs.getD j .any))
 (hR: ∀ v S' w',SR w0 nt β S' ⟨s.env,setBs s.blk (effL ids ids ps ks2)⟩ a w'→VR nb S' w' v res→R (.returned v) w'):Calls P f ca w R:=by
 obtain⟨g1,g2,g3⟩:=zC2 hk
 obtain⟨l1,l2,l3⟩:=zCZ hl
 have hBs: ∃ Bs:List BI,Bs.length=ids.length∧zDN β ids Bs:=by
  refine⟨ids.map fun i=>(β i).getD ⟨0,0,0,0⟩,by simp,fun j id hj=>?_⟩
  obtain⟨p,k,e1,e2,e3⟩:=g3 j id hj
  obtain⟨bi,c1,_,_⟩:=hs.hh.hblk id _ e3
  exact⟨bi,by simp[hj,c1],c1⟩
 obtain⟨Bs,hlen,hL⟩:=hBs
 obtain⟨a1,a2⟩:=ha Bs hL
 have get: ∀ (j:Nat) B k1,Bs[j]? =some B→ks1[j]? =some k1→ ∃ id p k,ids[j]? =some id∧ps[j]? =some p∧ks[j]? =some k∧β id=some B∧s.blk id=some (pinAB p k)∧lendB s.blk ids k=some k1:=by
  intro j B k1 q1 q2
  have hj:j <ids.length:=by have:=(List.getElem?_eq_some_iff.1 q1).1;omega
  obtain⟨p,k,e1,e2,e3⟩:=g3 j _ (List.getElem?_eq_getElem hj)
  obtain⟨k1',e4,e5⟩:=l3 j k e2
  obtain⟨bi,e6,e7⟩:=hL j _ (List.getElem?_eq_getElem hj)
  rw[q1]at e6
  rw[q2]at e4
  obtain rfl:=Option.some.inj e6
  obtain rfl:=Option.some.inj e4
  exact⟨_,p,k,List.getElem?_eq_getElem hj,e1,e2,e7,e3,e5⟩
 refine(hc.pc w S ca Bs hs.hh.hlt (by omega) (fun i j bi bj ki kj hne q1 q2 q3 q4 lv1 lv2=>?_) a1 a2 (fun j k1 B q1 q2=>?_)).mono ?_
 ·obtain⟨id,p,k,e1,e2,e3,e4,e5,e6⟩:=get i bi ki q1 q3
  obtain⟨id',p',k',f1,f2,f3,f4,f5,f6⟩:=get j bj kj q2 q4
  exact hs.hh.hinj id id' bi bj _ _ (fun e=>hne (zCP hn i j id e1 (by rw[e];exact f1))) e5 (by rw[zAV, ←(zA7 e6).1];exact lv1) f5 (by rw[zAV, ←(zA7 f6).1];exact lv2) e4 f4
 ·obtain⟨id,p,k,e1,e2,e3,e4,e5,e6⟩:=get j B k1 q2 q1
  obtain⟨b2,c1,c2,_⟩:=hs.hh.hblk id _ e5
  rw[e4]at c1
  obtain rfl:=Option.some.inj c1
  exact zEQ hs.hh hL c2 (by rw[zDZ];exact e6)
 ·rintro e w' ⟨v,S',rfl,hB,h1,h2,h3,hb2,hv⟩
  exact hR v S' w' (zF5 hs hk hn hl (by omega) hL hc.live hc.plain hB h1 h2 h3 hb2) hv
theorem zC9(id:Nat)(h:s.blk id=none):Less s (s.setB id .gone):=by
 intro w0 nt β S a w hs
 have hβn:β id=none:=by
  cases e:β id with
  |none=>rfl
  |some b=>obtain⟨k,hk⟩:=hs.hh.hdom id b e;rw[h]at hk;cases hk
 have hb': ∀ i b,β i=some b→upd β id ⟨0,0,0,0⟩ i=some b:=by
  intro i b q
  by_cases e:i=id
  ·subst e;rw[hβn]at q;cases q
  ·rw[zJ β _ e];exact q
 have hv: ∀ {v x},VR β S w v x→VR (upd β id ⟨0,0,0,0⟩) S w v x:=fun q=>q.mono hb' (fun _ _ q=>⟨q,rfl⟩)
 have hbk: ∀ {i k},(s.setB id .gone).blk i=some k→k.live=true→s.blk i=some k∧i≠id:=by
  intro i k q lv
  by_cases e:i=id
  ·subst e
   obtain rfl:=Option.some.inj ((zR s.blk i AB.gone).symm.trans q)
   cases lv
  ·exact⟨by rw[←zJ s.blk AB.gone e];exact q,e⟩
 refine⟨upd β id ⟨0,0,0,0⟩,S,⟨?_,?_,?_,hs.hh.hold,hs.hh.hnew,hs.hh.hlt,hs.hh.hbelow⟩,fun t x q=>hv (hs.henv t x q),hs.hsize,hs.hdefers⟩
 ·intro i k q
  by_cases e:i=id
  ·subst e
   obtain rfl:=Option.some.inj ((zR s.blk i AB.gone).symm.trans q)
   exact⟨_,zR _ _ _,trivial,fun lv=>by cases lv⟩
  ·obtain⟨b2,h1,h2,h3⟩:=hs.hh.hblk i k (by rw[←zJ s.blk AB.gone e];exact q)
   exact⟨b2,hb' _ _ h1,h2.ext hb' (fun _ _ q=>⟨q,rfl⟩) (fun _=>rfl) (fun _ _ q=>q),h3⟩
 ·intro i b q
  by_cases e:i=id
  ·exact⟨.gone,by rw[e];exact zR _ _ _⟩
  ·rw[zJ β _ e]at q
   obtain⟨k,hk⟩:=hs.hh.hdom i b q
   exact⟨k,by rw[←hk];exact zJ s.blk AB.gone e⟩
 ·intro i j b1 b2 k1 k2 hne q1 l1 q2 l2 p1 p2
  obtain⟨c1,n1⟩:=hbk q1 l1
  obtain⟨c2,n2⟩:=hbk q2 l2
  rw[zJ β _ n1]at p1
  rw[zJ β _ n2]at p2
  exact hs.hh.hinj i j b1 b2 k1 k2 hne c1 l1 c2 l2 p1 p2
def zEk:Nat→List BI→List AB→List (Nat×AB)
 |i,B::Bs,k::ks=>(i,pinAB (some B) k)::zEk (i+1) Bs ks
 |_,_,_=>[]
theorem zDO: ∀ {Bs:List BI} {ks:List AB} {i id:Nat} {k':AB},bkOf (zEk i Bs ks) id=some k'→i≤id∧ ∃ B k,Bs[id-i]? =some B∧ks[id-i]? =some k∧k'=pinAB (some B) k
 |[],_,i,id,k',h=>by simp[zEk,bkOf]at h
 |_::_,[],i,id,k',h=>by simp[zEk,bkOf]at h
 |B::Bs,k::ks,i,id,k',h=>by
  simp only[zEk,bkOf]at h
  split at h
  ·rename_i e
   obtain rfl:=Nat.eq_of_beq_eq_true e
   obtain rfl:=Option.some.inj h
   exact⟨Nat.le_refl _,B,k,by simp,by simp,rfl⟩
  ·obtain⟨h1,B',k2,h2,h3,h4⟩:=zDO h
   refine⟨by omega,B',k2,?_,?_,h4⟩
   ·rw[show id-i=(id-(i+1))+1 by omega];simpa using h2
   ·rw[show id-i=(id-(i+1))+1 by omega];simpa using h3
theorem zGk: ∀ {Bs:List BI} {ks:List AB} {i j:Nat} {B:BI} {k:AB},Bs[j]? =some B→ks[j]? =some k→bkOf (zEk i Bs ks) (i+j)=some (pinAB (some B) k)
 |[],_,i,j,B,k,h,_=>by simp at h
 |_::_,[],i,j,B,k,_,h=>by simp at h
 |B0::Bs,k0::ks,i,j,B,k,h1,h2=>by
  cases j with
  |zero=>
   obtain rfl:=Option.some.inj (show some B0=some B from h1)
   obtain rfl:=Option.some.inj (show some k0=some k from h2)
   simp[zEk,bkOf]
  |succ j=>
   have:=zGk (i:=i+1) (j:=j) (B:=B) (k:=k) (Bs:=Bs) (ks:=ks) (by simpa using h1) (by simpa using h2)
   simp only[zEk,bkOf]
   have hne:Nat.beq (i+(j+1)) i=false:=by
    cases e:Nat.beq (i+(j+1)) i with
    |true=>have:=Nat.eq_of_beq_eq_true e;omega
    |false=>rfl
   first
    |(rw[hne];rw[show i+(j+1)=i+1+j by omega];exact this)
    |(have hne2:Nat.beq i (i+(j+1))=false:=by
       cases e:Nat.beq i (i+(j+1))with
       |true=>have:=Nat.eq_of_beq_eq_true e;omega
       |false=>rfl
      rw[hne2];rw[show i+(j+1)=i+1+j by omega];exact this)
def zHY(ty:Ty)(rs:List ResultVar)(res:AV)(ids:List Nat)(Bs:List BI)(ks2:List AB)(e:Exit)(s':AS):Prop:=
 (e=.ret∨e=.normal)∧ ∃ s2,Less s' s2∧(∃ ks,lookL s2.blk ids (Bs.map some) ks∧lendL s2.blk ids ks=some ks2)∧ ∃ vs,resL ty s2 rs=some vs∧ ∃ x,packL s2.blk vs=some x∧Wk x res
end
end Go.Aw
namespace Go.Aw
open Go.RowKit
def zGr(L:List Bool):AV→Bool
 | .ptr j _=>L.getD j false
 |x=>zai x
def zFu(L:List Bool):AV→Bool
 | .fn _ a b=>a.all (zGr L)&&b.all (zGr L)
 | .ptr j _=>L.getD j false
 | .arr j=>L.getD j false
 |x=>zai x
def zG8(L:List Bool):AB→Bool
 | .bx _ c=>c.all (zFu L)
 |_=>true
def goodL(ks:List AB):Bool:=ks.all fun k=>okL k&&zG8 (ks.map AB.live) k
theorem zD4{L:List Bool}{x:AV}(h:zGr L x=true):zFo x=true:=by cases x <;>first|rfl|exact h
theorem zFX{L:List Bool}{x:AV}(h:zFu L x=true):zEL x=true:=by
 by_cases e: ∃ f a b,x=.fn f a b
 ·obtain⟨f,a,b,rfl⟩:=e
  simp only[zFu,zEL,Bool.and_eq_true]at h⊢
  exact⟨List.all_eq_true.2 fun x hx=>zD4 (List.all_eq_true.1 h.1 x hx),List.all_eq_true.2 fun x hx=>zD4 (List.all_eq_true.1 h.2 x hx)⟩
 ·cases x <;>first|rfl|exact h|exact absurd ⟨_,_,_,rfl⟩ e
theorem zFO{L:List Bool}{k:AB}(h:zG8 L k=true):plainB k=true:=by
 cases k with
 |bx p c=>exact List.all_eq_true.2 fun x hx=>zFX (List.all_eq_true.1 h x hx)
 |_=>rfl
theorem zFR{ks:List AB}(h:goodL ks=true): ∀ k,k∈ks→okL k=true∧plainB k=true:=by
 intro k hk
 have:=List.all_eq_true.1 h k hk
 rw[Bool.and_eq_true]at this
 exact⟨this.1,zFO this.2⟩
theorem zFv{L:List Bool}{Bs Bs':List BI}(hB: ∀ j,L.getD j false=true→Bs'[j]? =Bs[j]?){S:St}{w:World}{v:Value}{x:AV}(h:zGr L x=true)(hv:VR (lentBs Bs') S w v x):VR (lentBs Bs) S w v x:=by
 by_cases e: ∃ id off,x=.ptr id off
 ·obtain⟨id,off,rfl⟩:=e
  cases hv with
  |ptr _ _ b2 hb=>exact .ptr _ off b2 ((hB id h).symm.trans hb)
 ·have e1:zai x=true:=by cases x <;>first|exact h|exact absurd ⟨_,_,rfl⟩ e
  exact VR.up (zbp e1 hv)
theorem zHd{L:List Bool}{Bs Bs':List BI}(hB: ∀ j,L.getD j false=true→Bs'[j]? =Bs[j]?){S:St}{w:World}{v:Value}{x:AV}(h:zFu L x=true)(hv:VR (lentBs Bs') S w v x):VR (lentBs Bs) S w v x:=by
 by_cases ef: ∃ f a b,x=.fn f a b
 ·obtain⟨f,a,b,rfl⟩:=ef
  simp only[zFu,Bool.and_eq_true]at h
  cases hv with
  |fn _ fi ca _ _ h1 h2 h3 h4=>exact .fn f fi ca _ _ h1 h2 (fun j hj=>zFv hB (za7 h.1 hj) (h3 j hj)) (fun j hj=>zFv hB (za7 h.2 hj) (h4 j hj))
 by_cases e: ∃ id off,x=.ptr id off
 ·obtain⟨id,off,rfl⟩:=e
  cases hv with
  |ptr _ _ b2 hb=>exact .ptr _ off b2 ((hB id h).symm.trans hb)
 by_cases er: ∃ id,x=.arr id
 ·obtain⟨id,rfl⟩:=er
  cases hv with
  |arr _ b2 hb=>exact .arr _ b2 ((hB id h).symm.trans hb)
 have e1:zai x=true:=by cases x <;>first|exact h|exact absurd ⟨_,_,rfl⟩ e|exact absurd ⟨_,rfl⟩ er|exact absurd ⟨_,_,_,rfl⟩ ef
 exact VR.up (zbp e1 hv)
theorem zGY{L:List Bool}{Bs Bs':List BI}(hB: ∀ j,L.getD j false=true→Bs'[j]? =Bs[j]?){S:St}{w:World}{bi:BI}{p:Option BI}{k:AB}(ho:okL k=true)(h:zG8 L k=true)(hb:BR (lentBs Bs') S w bi (pinAB p k)):BR (lentBs Bs) S w bi (pinAB p k):=by
 cases k with
 |bx p' c=>
  obtain⟨cs,t,h1,h2,h3,h4,h5⟩:=hb
  exact⟨cs,t,h1,h2,fun j hj=>⟨zHd hB (za7 h hj) (h3 j hj).1,(h3 j hj).2⟩,h4,h5⟩
 |ar p' e es rows wr=>exact hb
 |mp p' n f=>exact hb
 |gone=>exact trivial
 |ro=>cases ho
 |rob=>cases ho
section
variable {P:Program} {ty:Ty}
end
end Go.Aw
namespace Go.Aw
open Go.RowKit
theorem HR.lentsM{w0:B0}{w w':World}{β:Bt}{S S':St}{blk blk':Bk}(h:HR w0 β S blk w){L:Nat→Prop}{idn:Nat}{bn:BI}{kn:AB}(hidn:blk idn=none)(hn: ∀ i,¬L i→i≠idn→blk' i=blk i)
 (hl: ∀ i,L i→ ∃ k k' bi,blk i=some k∧blk' i=some k'∧β i=some bi∧(k'.live=true→k.live=true)∧(k.live=true→ ∀ o,¬S bi.b o)∧BR (upd β idn bn) S' w' bi k')
 (hkn:blk' idn=some kn) (hbn:BR (upd β idn bn) S' w' bn kn)
 (hfr:kn.live=true→w.heap.size≤bn.b∨ ∃ i k bi k',L i∧blk i=some k∧k.live=true∧β i=some bi∧bi.b=bn.b∧blk' i=some k'∧k'.live=false)
 (hB:BelowP (fun b=>b <w.heap.size∧ ∀ i k bi,L i→blk i=some k→k.live=true→β i=some bi→b≠bi.b) w w') (h1: ∀ b o,S b o→S' b o) (h2: ∀ b o,S' b o→b <w.heap.size→S b o∨ ∃ i k bi,L i∧blk i=some k∧k.live=true∧β i=some bi∧bi.b=b) (h3: ∀ b o,S' b o→b <w'.heap.size):
 HR w0 (upd β idn bn) S' blk' w'∧ ∀ {v x},VR β S w v x→VR (upd β idn bn) S' w' v x:=by
 have hβn:β idn=none:=by
  cases e:β idn with
  |none=>rfl
  |some b=>obtain⟨k,hk⟩:=h.hdom idn b e;rw[hidn]at hk;cases hk
 have up: ∀ i b,β i=some b→upd β idn bn i=some b:=by
  intro i b q
  by_cases e:i=idn
  ·subst e;rw[hβn]at q;cases q
  ·rw[zJ β bn e];exact q
 have hLne: ∀ i,L i→i≠idn:=fun i hi e=>by
  obtain⟨k,_,_,g,_⟩:=hl i hi
  rw[e,hidn]at g;cases g
 have hSm: ∀ b o,S b o→S' b o∧w'.cell? ⟨b,o,none⟩=w.cell? ⟨b,o,none⟩:=fun b o q=>⟨h1 b o q,World.cell?_of_block (hB.block b ⟨h.hlt b o q,fun i k bi hL hk hlv hbi e=>by
  obtain⟨k2,_,b2,g1,_,g3,_,g5,_⟩:=hl i hL
  rw[hk]at g1
  obtain rfl:=Option.some.inj g1
  rw[hbi]at g3
  obtain rfl:=Option.some.inj g3
  exact g5 hlv o (e▸q)⟩)⟩
 have hv: ∀ {v x},VR β S w v x→VR (upd β idn bn) S' w' v x:=fun q=>q.mono up hSm
 have hgs:w0.w.heap.size≤w.heap.size:=h.hbelow.size
 have hlv: ∀ i k',i≠idn→blk' i=some k'→k'.live=true→ ∃ k,blk i=some k∧k.live=true:=by
  intro i k' hi q lv
  by_cases hL:L i
  ·obtain⟨k,k2,bi,g1,g2,_,g4,_⟩:=hl i hL
   rw[q]at g2
   obtain rfl:=Option.some.inj g2
   exact⟨k,g1,g4 lv⟩
  ·rw[hn i hL hi]at q;exact⟨k',q,lv⟩
 have hno:kn.live=true→ ¬w0.old bn.b:=by
  intro lv ho
  rcases hfr lv with q|⟨i,k,bi,k',e1,e2,e3,e4,e5,_⟩
  ·have:=w0.hlt0 _ ho;omega
  ·obtain⟨b2,g1,_,g3⟩:=h.hblk i k e2
   rw[e4]at g1
   obtain rfl:=Option.some.inj g1
   exact g3 e3 (e5▸ho)
 have hone: ∀ j b2 k2,j≠idn→blk' j=some k2→k2.live=true→upd β idn bn j=some b2→kn.live=true→bn.b≠b2.b:=by
  intro j b2 k2 hj q lv p lvn e
  rw[zJ β bn hj]at p
  obtain⟨c,d1,d2⟩:=hlv j k2 hj q lv
  rcases hfr lvn with q2|⟨i,k,bi,k',e1,e2,e3,e4,e5,e6,e7⟩
  ·obtain⟨b3,g1,g2,_⟩:=h.hblk j c d1
   rw[p]at g1
   obtain rfl:=Option.some.inj g1
   have:=g2.lt d2
   omega
  ·have hij:i≠j:=by
    intro e8
    subst e8
    rw[q]at e6
    obtain rfl:=Option.some.inj e6
    rw[lv]at e7;cases e7
   exact h.hinj i j bi b2 k c hij e2 e3 d1 d2 e4 p (by omega)
 refine⟨⟨?_,?_,?_,fun b o q=>h1 b o (h.hold b o q),fun b o q hlo=>(h2 b o q (by have:=w0.hlt0 b hlo;omega)).elim (fun q=>h.hnew b o q hlo) (fun⟨i,k,bi,_,e2,e3,e4,e5⟩=>by
  obtain⟨b2,g1,_,g3⟩:=h.hblk i k e2
  rw[e4]at g1
  obtain rfl:=Option.some.inj g1
  exact absurd (e5▸hlo) (g3 e3)),h3,?_⟩,hv⟩
 ·intro i kk q
  by_cases e:i=idn
  ·subst e
   rw[hkn]at q
   obtain rfl:=Option.some.inj q
   exact⟨bn,zR _ _ _,hbn,hno⟩
  by_cases hL:L i
  ·obtain⟨k,k2,bi,g1,g2,g3,g4,g5,g6⟩:=hl i hL
   rw[q]at g2
   obtain rfl:=Option.some.inj g2
   obtain⟨b2,e1,_,e3⟩:=h.hblk i k g1
   rw[g3]at e1
   obtain rfl:=Option.some.inj e1
   exact⟨_,up _ _ g3,g6,fun lv=>e3 (g4 lv)⟩
  ·rw[hn i hL e]at q
   obtain⟨b2,g1,g2,g3⟩:=h.hblk i kk q
   refine⟨b2,up _ _ g1,g2.ext up hSm (fun hl2=>hB.block _ ⟨g2.lt hl2,fun j k bj hLj hk hlvj hbj e=>?_⟩) (fun hl2 o q2=>(h2 _ o q2 (g2.lt hl2)).elim id (fun⟨j,k,bj,hLj,e2,e3,e4,e5⟩=>absurd e5.symm (h.hinj i j b2 bj kk k (fun e=>hL (e▸hLj)) q hl2 e2 e3 g1 e4))),g3⟩
   exact h.hinj i j b2 bj kk k (fun e=>hL (e▸hLj)) q hl2 hk hlvj g1 hbj e
 ·intro i b q
  by_cases e:i=idn
  ·subst e;exact⟨kn,hkn⟩
  ·rw[zJ β bn e]at q
   obtain⟨k2,hk2⟩:=h.hdom i b q
   by_cases hL:L i
   ·obtain⟨_,k',_,_,g2,_⟩:=hl i hL;exact⟨k',g2⟩
   ·exact⟨k2,by rw[hn i hL e];exact hk2⟩
 ·intro i j b1 b2 k1 k2 hne q1 l1 q2 l2 p1 p2
  by_cases ei:i=idn
  ·subst ei
   rw[hkn]at q1
   obtain rfl:=Option.some.inj q1
   rw[zR]at p1
   obtain rfl:=Option.some.inj p1
   exact hone j b2 k2 (fun e=>hne e.symm) q2 l2 p2 l1
  by_cases ej:j=idn
  ·subst ej
   rw[hkn]at q2
   obtain rfl:=Option.some.inj q2
   rw[zR]at p2
   obtain rfl:=Option.some.inj p2
   exact fun e=>hone i b1 k1 hne q1 l1 p1 l2 e.symm
  ·obtain⟨c1,d1,d2⟩:=hlv i k1 ei q1 l1
   obtain⟨c2,e1,e2⟩:=hlv j k2 ej q2 l2
   rw[zJ β bn ei]at p1
   rw[zJ β bn ej]at p2
   exact h.hinj i j b1 b2 c1 c2 hne d1 d2 e1 e2 p1 p2
 ·refine h.hbelow.trans ⟨hB.os,hB.tape,hB.output,hB.size,fun b hb=>hB.block b ⟨by have:=w0.hlt0 b hb;omega,fun i k bi hL hk hlvi hbi e=>?_⟩⟩
  obtain⟨b2,e1,_,e3⟩:=h.hblk i k hk
  rw[hbi]at e1
  obtain rfl:=Option.some.inj e1
  exact e3 hlvi (e▸hb)
theorem zDK: ∀ {l:List (Nat×AB)} {b:Bk},zCb (l.map (·.1))=true→ ∀ (j:Nat) (p:Nat×AB),l[j]? =some p→setBs b l p.1=some p.2
 |[],_,_,j,p,h=>by simp at h
 |(i,k)::l,b,hn,j,p,h=>by
  have hn':=hn
  simp only[List.map_cons,zCb,Bool.and_eq_true,Bool.not_eq_true']at hn
  simp only[setBs]
  cases j with
  |zero=>
   obtain rfl:=Option.some.inj (show some (i,k)=some p from h)
   rw[zfx]
   ·exact zR _ _ _
   ·intro q hq e
    obtain⟨j,hj⟩:=List.getElem?_of_mem hq
    have:=zCP hn' 0 (j+1) i rfl (by simp[hj,e])
    omega
  |succ j=>exact zDK hn.2 j p (by simpa using h)
def zFQ(m:Nat)(ids':List Nat):Nat→List Nat→List (Option BI)→List AB→List (Nat×AB)
 |j,i::l,p::ps,k::ks=>(match Nat.beq j m with|true=>(i,.gone)|false=>(i,pinAB p (backB ids' k)))::zFQ m ids' (j+1) l ps ks
 |_,_,_,_=>[]
def zDS(m idn:Nat)(ids:List Nat)(ps:List (Option BI))(ks:List AB):List (Nat×AB):=(idn,pinAB none (backB (ids.set m idn) (ks.getD m .gone)))::zFQ m (ids.set m idn) 0 ids ps ks
theorem zED{m:Nat}{ids':List Nat}: ∀ {l:List Nat} {ps:List (Option BI)} {ks:List AB} {j:Nat},l.length=ks.length→ps.length=ks.length→(zFQ m ids' j l ps ks).map (·.1)=l
 |[],_,_,j,_,_=>by simp[zFQ]
 |_::_,_::_,[],_,h,_=>by simp at h
 |_::_,[],[],_,h,_=>by simp at h
 |_::_,[],_::_,_,_,h=>by simp at h
 |i::l,p::ps,k::ks,j,h1,h2=>by
  simp only[zFQ,List.map_cons]
  rw[zED (by simpa using h1) (by simpa using h2)]
  split <;>rfl
theorem zEq{m:Nat}{ids':List Nat}: ∀ {l:List Nat} {ps:List (Option BI)} {ks:List AB} {j0 j id:Nat} {p:Option BI} {k:AB},l[j]? =some id→ps[j]? =some p→ks[j]? =some k→
 (zFQ m ids' j0 l ps ks)[j]? =some (id,if j0+j=m then .gone else pinAB p (backB ids' k))
 |[],_,_,_,j,_,_,_,h,_,_=>by simp at h
 |_::_,[],_,_,j,_,_,_,_,h,_=>by simp at h
 |_::_,_::_,[],_,j,_,_,_,_,_,h=>by simp at h
 |i::l,q::ps,k0::ks,j0,j,id,p,k,h1,h2,h3=>by
  cases j with
  |zero=>
   obtain rfl:=Option.some.inj (show some i=some id from h1)
   obtain rfl:=Option.some.inj (show some q=some p from h2)
   obtain rfl:=Option.some.inj (show some k0=some k from h3)
   simp only[zFQ,List.getElem?_cons_zero,Nat.add_zero]
   split
   ·rename_i e;rw[if_pos (Nat.eq_of_beq_eq_true e)]
   ·rename_i e
    rw[if_neg (fun q=>by subst q;rw[Nat.beq_refl]at e;cases e)]
  |succ j=>
   simp only[zFQ,List.getElem?_cons_succ]
   rw[zEq (by simpa using h1) (by simpa using h2) (by simpa using h3),show j0+1+j=j0+(j+1) by omega]
structure MV (P:Program) (m f:Nat) (args:List AV) (ks:List AB) (res:AV) (ks2:List AB):Prop where
 live:ks2.length=ks.length∧ ∀ j,j≠m→(ks2.map AB.live)[j]? =(ks.map AB.live)[j]?
 plain: ∀ k,k∈ks2→okL k=true∧plainB k=true
 pc: ∀ (w:World) (S0:St) (ca:Array Value) (Bs:List BI),(∀ b o,S0 b o→b <w.heap.size)→Bs.length=ks.length→
  (∀ (i j:Nat) (bi bj:BI) (ki kj:AB),i≠j→Bs[i]? =some bi→Bs[j]? =some bj→ks[i]? =some ki→ks[j]? =some kj→ki.live=true→kj.live=true→bi.b≠bj.b)→
  ca.size=args.length→(∀ j,j <args.length→VR (lentBs Bs) S0 w (ca.getD j undef) (args.getD j .any))→(∀ (j:Nat) k B,ks[j]? =some k→Bs[j]? =some B→BR (lentBs Bs) S0 w B (pinAB (some B) k))→
  Calls P f ca w fun e w'=> ∃ v S' Bs',e=.returned v∧BelowP (butLs w Bs ks) w w'∧(∀ b o,S0 b o→S' b o)∧(∀ b o,S' b o→b <w.heap.size→S0 b o∨ ∃ B0 k0,Bs[m]? =some B0∧ks[m]? =some k0∧k0.live=true∧B0.b=b)∧(∀ b o,S' b o→b <w'.heap.size)∧
   Bs'.length=ks.length∧(∀ j,j≠m→Bs'[j]? =Bs[j]?)∧(∀ B k,Bs'[m]? =some B→ks2[m]? =some k→k.live=true→w.heap.size≤B.b∨ ∃ B0 k0,Bs[m]? =some B0∧ks[m]? =some k0∧k0.live=true∧B0.b=B.b)∧
   (∀ (j:Nat) k B,ks2[j]? =some k→Bs'[j]? =some B→BR (lentBs Bs') S' w' B (pinAB (some B) k))∧VR nb S' w' v res
 fn: ∃ fn,P.funcs[f]? =some fn∧fn.body.isNone=false∧(fn.name=="runtime.NumGoroutine")=false
section
variable {P:Program} {ty:Ty} {w0:B0} {nt:Nat} {s:AS} {d:Option Nat} {t:TypeId} {pos:String} {af:Array Edge} {g:Option (Nat×Bool)}
theorem zFN{s:AS}{w w':World}{β:Bt}{S S':St}{a:Act}{m idn:Nat}{ids:List Nat}{ps:List (Option BI)}{ks ks1 ks2:List AB}{Bs Bs':List BI}(hs:SR w0 nt β S s a w)(hk:lookL s.blk ids ps ks)(hn:zCb ids=true)(hl:lendL s.blk ids ks=some ks1)
 (hm:m <ids.length) (hidn:s.blk idn=none) (hBs:ids.length=Bs.length) (hL:zDN β ids Bs) (hlen2:ks2.length=ks1.length) (hlv: ∀ j,j≠m→(ks2.map AB.live)[j]? =(ks1.map AB.live)[j]?) (hpl: ∀ k,k∈ks2→okL k=true∧plainB k=true)
 (hB:BelowP (butLs w Bs ks1) w w') (h1: ∀ b o,S b o→S' b o) (h2: ∀ b o,S' b o→b <w.heap.size→S b o∨ ∃ B0 k0,Bs[m]? =some B0∧ks1[m]? =some k0∧k0.live=true∧B0.b=b) (h3: ∀ b o,S' b o→b <w'.heap.size)
 (hB1:Bs'.length=ks1.length) (hB2: ∀ j,j≠m→Bs'[j]? =Bs[j]?) (hB3: ∀ B k,Bs'[m]? =some B→ks2[m]? =some k→k.live=true→w.heap.size≤B.b∨ ∃ B0 k0,Bs[m]? =some B0∧ks1[m]? =some k0∧k0.live=true∧B0.b=B.b)
 (hb2: ∀ (j:Nat) k B,ks2[j]? =some k→Bs'[j]? =some B→BR (lentBs Bs') S' w' B (pinAB (some B) k)):
 ∃ bn,SR w0 nt (upd β idn bn) S' ⟨s.env,setBs s.blk (zDS m idn ids ps ks2)⟩ a w':=by
 obtain⟨g1,g2,g3⟩:=zC2 hk
 obtain⟨l1,l2,l3⟩:=zCZ hl
 have hmB:m <Bs'.length:=by omega
 refine⟨Bs'[m],?_⟩
 have hidne: ∀ j id,ids[j]? =some id→id≠idn:=fun j id hj e=>by
  obtain⟨p,k,e1,e2,e3⟩:=g3 j id hj
  rw[e,hidn]at e3;cases e3
 have key: ∀ (j:Nat) id,ids[j]? =some id→ ∃ p k k1 k2 bi,ps[j]? =some p∧ks[j]? =some k∧ks1[j]? =some k1∧ks2[j]? =some k2∧Bs[j]? =some bi∧β id=some bi∧s.blk id=some (pinAB p k)∧lendB s.blk ids k=some k1∧(j≠m→k2.live=k1.live):=by
  intro j id hj
  obtain⟨p,k,e1,e2,e3⟩:=g3 j id hj
  obtain⟨k1,e4,e5⟩:=l3 j k e2
  obtain⟨bi,e6,e7⟩:=hL j id hj
  have hj2:j <ks2.length:=by have:=(List.getElem?_eq_some_iff.1 e4).1;omega
  have e8:=List.getElem?_eq_getElem hj2
  refine⟨p,k,k1,ks2[j],bi,e1,e2,e4,e8,e6,e7,e3,e5,fun hjm=>?_⟩
  have:=hlv j hjm
  simp only[List.getElem?_map,e4,e8,Option.map_some]at this
  exact Option.some.inj this
 have hLd:Lied (upd β idn Bs'[m]) (ids.set m idn) Bs':=by
  refine⟨by rw[List.length_set];omega,fun j id hj=>?_⟩
  by_cases e:j=m
  ·subst e
   rw[List.getElem?_set_self (by omega)]at hj
   obtain rfl:=Option.some.inj hj
   exact⟨_,List.getElem?_eq_getElem hmB,zR _ _ _⟩
  ·rw[List.getElem?_set_ne (fun q=>e q.symm)]at hj
   obtain⟨bi,e6,e7⟩:=hL j id hj
   exact⟨bi,by rw[hB2 j e];exact e6,by rw[zJ β _ (hidne j id hj)];exact e7⟩
 have hnd:zCb ((zDS m idn ids ps ks2).map (·.1))=true:=by
  simp only[zDS,List.map_cons]
  rw[zED (by omega) (by omega)]
  simp only[zCb,Bool.and_eq_true,Bool.not_eq_true',hn,and_true]
  refine List.any_eq_false.2 fun x hx q=>?_
  obtain⟨j,hj⟩:=List.getElem?_of_mem hx
  exact hidne j x hj (Nat.eq_of_beq_eq_true q).symm
 have hm2:m <ks2.length:=by omega
 obtain⟨r1,r2⟩:=hs.hh.lentsM (idn:=idn) (bn:=Bs'[m]) (kn:=pinAB none (backB (ids.set m idn) (ks2.getD m .gone))) (blk':=setBs s.blk (zDS m idn ids ps ks2)) (L:=fun i=>i∈ids) hidn (fun i hi hine=>zfx fun p hp e=>by
  have:p.1∈(zDS m idn ids ps ks2).map (·.1):=List.mem_map_of_mem hp
  simp only[zDS,List.map_cons]at this
  rw[zED (by omega) (by omega)]at this
  rcases List.mem_cons.1 this with q|q
  ·exact hine (e.symm.trans q)
  ·exact hi (e▸q)) (fun i hi=>by
  obtain⟨j,hj⟩:=List.getElem?_of_mem hi
  obtain⟨p,k,k1,k2,bi,e1,e2,e3,e4,e5,e6,e7,e8,e9⟩:=key j i hj
  have f3:=zDK (b:=s.blk) hnd (j+1) _ (by simp only[zDS,List.getElem?_cons_succ];exact zEq (m:=m) (ids':=ids.set m idn) (j0:=0) hj e1 e4)
  obtain⟨b2,c1,c2,_⟩:=hs.hh.hblk i _ e7
  rw[e6]at c1
  obtain rfl:=Option.some.inj c1
  obtain⟨m1,m2,m3⟩:=zA7 e8
  obtain⟨o1,o2⟩:=hpl _ (List.mem_of_getElem? e4)
  refine⟨_,_,bi,e7,f3,e6,fun lv=>?_,fun lv o=>zEv (by rw[zFi];exact m2) lv c2 o,?_⟩
  ·rw[Nat.zero_add]at lv
   by_cases e:j=m
   ·rw[if_pos e]at lv;cases lv
   ·rw[if_neg e,zAV,zDz,e9 e,m1]at lv
    rw[zAV];exact lv
  ·rw[Nat.zero_add]
   by_cases e:j=m
   ·rw[if_pos e];exact trivial
   ·rw[if_neg e]
    rcases zCO m2 with rfl|hk3
    ·have hl2:k2.live=false:=by rw[e9 e,m1];rfl
     rcases zCO o1 with rfl|hg
     ·exact trivial
     ·rw[zco hg]at hl2;cases hl2
    ·refine zEz hLd o1 o2 (hb2 j k2 bi e4 (by rw[hB2 j e];exact e5)) (fun B q=>c2.pinned B ?_)
     rw[←q]
     cases k <;>first|rfl|cases hk3)
  (zDK (b:=s.blk) hnd 0 _ rfl)
  (by
    have e4:=List.getElem?_eq_getElem hm2
    rw[show ks2.getD m .gone=ks2[m] by rw[List.getD_eq_getElem?_getD,e4];rfl]
    obtain⟨o1,o2⟩:=hpl _ (List.mem_of_getElem? e4)
    exact zEz hLd o1 o2 (hb2 m _ _ e4 (List.getElem?_eq_getElem hmB)) (fun B q=>by cases q))
  (fun lv=>by
    have e4:=List.getElem?_eq_getElem hm2
    rw[show ks2.getD m .gone=ks2[m] by rw[List.getD_eq_getElem?_getD,e4];rfl,zAV,zDz]at lv
    rcases hB3 _ _ (List.getElem?_eq_getElem hmB) e4 lv with q|⟨B0,k0,q1,q2,q3,q4⟩
    ·exact .inl q
    ·obtain⟨p,k,k1,k2,bi,e1,e2,e3,e4',e5,e6,e7,e8,e9⟩:=key m _ (List.getElem?_eq_getElem hm)
     rw[q1]at e5
     obtain rfl:=Option.some.inj e5
     rw[q2]at e3
     obtain rfl:=Option.some.inj e3
     have f3:=zDK (b:=s.blk) hnd (m+1) _ (by simp only[zDS,List.getElem?_cons_succ];exact zEq (m:=m) (ids':=ids.set m idn) (j0:=0) (List.getElem?_eq_getElem hm) e1 e4')
     rw[Nat.zero_add,if_pos rfl]at f3
     exact .inr ⟨_,_,B0,_,List.getElem_mem hm,e7,by rw[zAV, ←(zA7 e8).1];exact q3,e6,q4,f3,rfl⟩)
  ⟨hB.os,hB.tape,hB.output,hB.size,fun b hb=>hB.block b ⟨hb.1,fun j B k1 q1 q2 q3=>by
   have hj:j <ids.length:=by have:=(List.getElem?_eq_some_iff.1 q1).1;omega
   obtain⟨p,k,k1',k2,bi,e1,e2,e3,e4,e5,e6,e7,e8,e9⟩:=key j _ (List.getElem?_eq_getElem hj)
   rw[q1]at e5
   rw[q2]at e3
   obtain rfl:=Option.some.inj e5
   obtain rfl:=Option.some.inj e3
   exact hb.2 _ _ _ (List.getElem_mem hj) e7 (by rw[zAV, ←(zA7 e8).1];exact q3) e6⟩⟩ h1 (fun b o q hlt=>(h2 b o q hlt).imp id (fun⟨B0,k0,q1,q2,q3,q4⟩=>by
   obtain⟨p,k,k1,k2,bi,e1,e2,e3,e4',e5,e6,e7,e8,e9⟩:=key m _ (List.getElem?_eq_getElem hm)
   rw[q1]at e5
   obtain rfl:=Option.some.inj e5
   rw[q2]at e3
   obtain rfl:=Option.some.inj e3
   exact⟨_,_,B0,List.getElem_mem hm,e7,by rw[zAV, ←(zA7 e8).1];exact q3,e6,q4⟩)) h3
 exact⟨r1,fun u z q=>r2 (hs.henv u z q),hs.hsize,hs.hdefers⟩
theorem MV.call{m f idn:Nat}{ids:List Nat}{ps:List (Option BI)}{ks ks1 ks2:List AB}{ca:Array Value}{xs:List AV}{res:AV}{s:AS}{w:World}{β:Bt}{S:St}{a:Act}{R:Ending→World→Prop}(hc:MV P m f xs ks1 res ks2)(hs:SR w0 nt β S s a w)(hk:lookL s.blk ids ps ks)(hn:zCb ids=true)(hl:lendL s.blk ids ks=some ks1)
 (hm:m <ids.length) (hidn:s.blk idn=none)
 (ha: ∀ Bs,zDN β ids Bs→ca.size=xs.length∧ ∀ j,j <xs.length→VR (lentBs Bs) S w (ca.getD j undef) (xs.getD j .any))
 (hR: ∀ v β' S' w',SR w0 nt β' S' ⟨s.env,setBs s.blk (zDS m idn ids ps ks2)⟩ a w'→VR nb S' w' v res→R (.returned v) w'):Calls P f ca w R:=by
 obtain⟨g1,g2,g3⟩:=zC2 hk
 obtain⟨l1,l2,l3⟩:=zCZ hl
 have hBs: ∃ Bs:List BI,Bs.length=ids.length∧zDN β ids Bs:=by
  refine⟨ids.map fun i=>(β i).getD ⟨0,0,0,0⟩,by simp,fun j id hj=>?_⟩
  obtain⟨p,k,e1,e2,e3⟩:=g3 j id hj
  obtain⟨bi,c1,_,_⟩:=hs.hh.hblk id _ e3
  exact⟨bi,by simp[hj,c1],c1⟩
 obtain⟨Bs,hlen,hL⟩:=hBs
 obtain⟨a1,a2⟩:=ha Bs hL
 have get: ∀ (j:Nat) B k1,Bs[j]? =some B→ks1[j]? =some k1→ ∃ id p k,ids[j]? =some id∧ps[j]? =some p∧ks[j]? =some k∧β id=some B∧s.blk id=some (pinAB p k)∧lendB s.blk ids k=some k1:=by
  intro j B k1 q1 q2
  have hj:j <ids.length:=by have:=(List.getElem?_eq_some_iff.1 q1).1;omega
  obtain⟨p,k,e1,e2,e3⟩:=g3 j _ (List.getElem?_eq_getElem hj)
  obtain⟨k1',e4,e5⟩:=l3 j k e2
  obtain⟨bi,e6,e7⟩:=hL j _ (List.getElem?_eq_getElem hj)
  rw[q1]at e6
  rw[q2]at e4
  obtain rfl:=Option.some.inj e6
  obtain rfl:=Option.some.inj e4
  exact⟨_,p,k,List.getElem?_eq_getElem hj,e1,e2,e7,e3,e5⟩
 refine(hc.pc w S ca Bs hs.hh.hlt (by omega) (fun i j bi bj ki kj hne q1 q2 q3 q4 lv1 lv2=>?_) a1 a2 (fun j k1 B q1 q2=>?_)).mono ?_
 ·obtain⟨id,p,k,e1,e2,e3,e4,e5,e6⟩:=get i bi ki q1 q3
  obtain⟨id',p',k',f1,f2,f3,f4,f5,f6⟩:=get j bj kj q2 q4
  exact hs.hh.hinj id id' bi bj _ _ (fun e=>hne (zCP hn i j id e1 (by rw[e];exact f1))) e5 (by rw[zAV, ←(zA7 e6).1];exact lv1) f5 (by rw[zAV, ←(zA7 f6).1];exact lv2) e4 f4
 ·obtain⟨id,p,k,e1,e2,e3,e4,e5,e6⟩:=get j B k1 q2 q1
  obtain⟨b2,c1,c2,_⟩:=hs.hh.hblk id _ e5
  rw[e4]at c1
  obtain rfl:=Option.some.inj c1
  exact zEQ hs.hh hL c2 (by rw[zDZ];exact e6)
 ·rintro e w' ⟨v,S',Bs',rfl,hB,h1,h2,h3,hb1,hb2,hb3,hb4,hv⟩
  obtain⟨bn,hs2⟩:=zFN hs hk hn hl hm hidn (by omega) hL hc.live.1 hc.live.2 hc.plain hB h1 h2 h3 hb1 hb2 hb3 hb4
  exact hR v _ S' w' hs2 hv
theorem zDR{m f:Nat}{ks ks1 ks2:List AB}{as:Array Operand}{ts:Array TypeId}{xs:List AV}{res:AV}{bs:List (Nat×AB)}(ids:List Nat)(idn:Nat)(ps:List (Option BI))(hk:lookL s.blk ids ps ks)(hl:lendL s.blk ids ks=some ks1)
 (ha:zCy s ids as.toList=some xs) (hc:MV P m f xs ks1 res ks2) (hn:zCb ids=true) (hm:Nat.blt m ids.length=true) (hidn:(s.blk idn).isNone=true) (h3:zDS m idn ids ps ks2=bs) (hd:zt nt d=true):
 MStep P w0 nt ⟨d,.call {callee:=.value (.func f),args:=as,argTypes:=ts},t,pos,af,g⟩ s res bs:=by
 subst h3
 intro t2 hle hfr β S a w next Q hs hnx
 have hidn2:t2.blk idn=none:=hfr _ (List.mem_cons_self) (Option.isNone_iff_eq_none.1 hidn)
 obtain⟨fn,hf,hbody,hname⟩:=hc.fn
 have hr:(execOp a.eval ⟨d,.call {callee:=.value (.func f),args:=as,argTypes:=ts},t,pos,af,g⟩).run P w=.ok (.enter f (as.map a.eval)) w:=by
  have hcf:(callFunc f (as.map a.eval)).run P w=.ok (.enter f (as.map a.eval)) w:=by
   unfold callFunc
   rw[Sem.run_bind,run_program,Result.andThen_ok]
   simp only[hf,hname,hbody,Bool.false_eq_true,if_false,Sem.run_pure]
  simp[execOp,resolve,Act.eval,Deferred.ofValue,invoke,hcf]
 unfold Oper.wp
 rw[hr]
 simp only[Oper.upon]
 refine hc.call hs (zDw hle hk) hn (zDv hle hl) (by simpa[Nat.blt_eq]using hm) hidn2 (fun Bs hL=>?_) (fun v β' S' w' hs2 hv=>hnx _ _ _ _ (hs2.put hd (VR.up hv)))
 obtain⟨e1,e2⟩:=zDt hs hL (zC7 hle ha)
 exact⟨by simpa using e1,fun j hj=>by
  have:=e2 j hj
  rw[←zag,Array.toList_map];exact this⟩
theorem zE9{m f:Nat}{ks ks1 ks2:List AB}{x:Operand}{as:Array Operand}{ts:Array TypeId}{xi xa xi' xa' xs:List AV}{res:AV}{bs:List (Nat×AB)}(ids:List Nat)(idn:Nat)(ps:List (Option BI))(hx:evO s x=some (.fn (.func f) xi xa))(hk:lookL s.blk ids ps ks)(hl:lendL s.blk ids ks=some ks1)
 (hxi:lend0s ids xi=some xi') (hxa:lend0s ids xa=some xa') (ha:zCy s ids as.toList=some xs) (hc:MV P m f (xi'++xs++xa') ks1 res ks2) (hn:zCb ids=true) (hm:Nat.blt m ids.length=true) (hidn:(s.blk idn).isNone=true) (h3:zDS m idn ids ps ks2=bs) (hd:zt nt d=true):
 MStep P w0 nt ⟨d,.call {callee:=.value x,args:=as,argTypes:=ts},t,pos,af,g⟩ s res bs:=by
 subst h3
 intro t2 hle hfr β S a w next Q hs hnx
 have hidn2:t2.blk idn=none:=hfr _ (List.mem_cons_self) (Option.isNone_iff_eq_none.1 hidn)
 obtain⟨fn,hf,hbody,hname⟩:=hc.fn
 have hxv:=zah hs (zV hle hx)
 generalize ex:a.eval x=cx at hxv
 cases hxv
 rename_i fi ca h1 h3 h2 h4
 have hr:(execOp a.eval ⟨d,.call {callee:=.value x,args:=as,argTypes:=ts},t,pos,af,g⟩).run P w=.ok (.enter f (fi++as.map a.eval++ca)) w:=by
  have hcf:(callFunc f (fi++as.map a.eval++ca)).run P w=.ok (.enter f (fi++as.map a.eval++ca)) w:=by
   unfold callFunc
   rw[Sem.run_bind,run_program,Result.andThen_ok]
   simp only[hf,hname,hbody,Bool.false_eq_true,if_false,Sem.run_pure]
  simp[execOp,resolve,ex,Deferred.ofValue,invoke,hcf, -Array.append_assoc]
 unfold Oper.wp
 rw[hr]
 simp only[Oper.upon]
 refine hc.call hs (zDw hle hk) hn (zDv hle hl) (by simpa[Nat.blt_eq]using hm) hidn2 (fun Bs hL=>?_) (fun v β' S' w' hs2 hv=>hnx _ _ _ _ (hs2.put hd (VR.up hv)))
 obtain⟨e1,e2⟩:=zDt hs hL (zC7 hle ha)
 obtain⟨i1,i2⟩:=zC0 hL (cv:=fun j=>fi.getD j undef) hxi h3
 obtain⟨i3,i4⟩:=zC0 hL (cv:=fun j=>ca.getD j undef) hxa h4
 exact zk5 (S:=S) (w:=w) (β:=lentBs Bs) (a:=fi) (b:=as.map a.eval) (c:=ca) (x:=xi') (y:=xs) (z:=xa') (by omega) (by simpa using e1) (by omega)
  i2 (fun j hj=>by
   have:=e2 j hj
   rw[←zag,Array.toList_map];exact this) i4
def zHx(ty:Ty)(m:Nat)(rs:List ResultVar)(res:AV)(n:Nat)(Bs:List BI)(ks2:List AB)(e:Exit)(s':AS):Prop:=
 (e=.ret∨e=.normal)∧ ∃ s2,Less s' s2∧(∃ idm ks,zCb ((List.range n).set m idm)=true∧lookL s2.blk ((List.range n).set m idm) ((Bs.map some).set m none) ks∧lendL s2.blk ((List.range n).set m idm) ks=some ks2)∧ ∃ vs,resL ty s2 rs=some vs∧ ∃ x,packL s2.blk vs=some x∧Wk x res
theorem zFA(hty:TyOK P ty){m f:Nat}{fn:Func}{c:Code}{args:List AV}{ks:List AB}{res:AV}{ks2:List AB}(hf:P.funcs[f]? =some fn)(hb:fn.body=some c)(hname:(fn.name=="runtime.NumGoroutine")=false)(hn:Nat.ble args.length fn.ntmps=true)
 (hg:goodL ks2=true) (hm:Nat.blt m ks.length=true) (hlen2:ks2.length=ks.length) (hlive:((ks2.map AB.live).set m true)=(ks.map AB.live).set m true) (h: ∀ (w0:B0) (Bs:List BI),Bs.length=ks.length→AC P w0 fn.ntmps c ⟨fun t=>args[t]?,bkOf (zEk 0 Bs ks)⟩ (zHx ty m fn.results.toList res ks.length Bs ks2)):MV P m f args ks res ks2:=by
 have hm:m <ks.length:=by simpa[Nat.blt_eq]using hm
 have hlv: ∀ j,j≠m→(ks2.map AB.live)[j]? =(ks.map AB.live)[j]? :=fun j hj=>by
  have:=congrArg (fun l=>l[j]?) hlive
  simpa only[List.getElem?_set_ne (fun q=>hj q.symm)]using this
 refine⟨⟨hlen2,hlv⟩,zFR hg,?_,fn,hf,by rw[hb];rfl,hname⟩
 intro w S0 ca Bs hS hlen hdist hsz hca hbox
 have hn:=Nat.le_of_ble_eq_true hn
 refine calls_of_wp hf hb (h ⟨w,S0,butLs w Bs ks,fun _ h=>h.1⟩ Bs hlen (lentBs Bs) S0 _ _ _ ⟨⟨?_,?_,?_,fun b o q=>q,fun b o q _=>q,hS,BelowP.refl _ _⟩,?_,?_,rfl⟩ ?_)
 ·intro id k q
  obtain⟨_,B,k0,h1,h2,rfl⟩:=zDO q
  rw[Nat.sub_zero]at h1 h2
  exact⟨B,h1,hbox id k0 B h2 h1,fun lv ho=>ho.2 id B k0 h1 h2 (by rw[←lv,zAV]) rfl⟩
 ·intro id bi q
  have hq:Bs[id]? =some bi:=q
  have hid:id <ks.length:=by have:=(List.getElem?_eq_some_iff.1 hq).1;omega
  have:=zGk (i:=0) hq (List.getElem?_eq_getElem hid)
  rw[Nat.zero_add]at this
  exact⟨_,this⟩
 ·intro i j bi bj ki kj hne q1 l1 q2 l2 p1 p2
  obtain⟨_,B1,k1,e1,e2,rfl⟩:=zDO q1
  obtain⟨_,B2,k2,f1,f2,rfl⟩:=zDO q2
  rw[Nat.sub_zero]at e1 e2 f1 f2
  exact hdist i j bi bj k1 k2 hne p1 p2 e2 f2 (by rw[←l1,zAV]) (by rw[←l2,zAV])
 ·intro t x hx
  have hlt:t <args.length:=(List.getElem?_eq_some_iff.1 hx).1
  have:=hca t hlt
  have hx':args[t]? =some x:=hx
  have e1:args.getD t .any=x:=by rw[List.getD_eq_getElem?_getD,hx'];rfl
  have e2:(ca++Array.replicate (fn.ntmps-ca.size) undef).getD t undef=ca.getD t undef:=by
   simp only[Array.getD_eq_getD_getElem?]
   rw[Array.getElem?_append_left (by omega)]
  rw[e1]at this
  simp only[e2]
  exact this
 ·simp only[Array.size_append,Array.size_replicate];omega
 ·intro e β' S' a' w' s' hk hs'
  obtain⟨he,s2,hl2',⟨idm,kz,hnd,hk1,hk2⟩,vs,h1,x,h2,h6⟩:=hk
  obtain⟨β',S',hs'⟩:=hl2' _ _ _ _ _ _ hs'
  obtain⟨us,h3,h4,h5⟩:=zhn hty hs' h1
  have hres:(results fn a'.tmps).run P w'=.ok (if h:us.toArray.size=1 then us.toArray[0]else .tuple us.toArray) w':=by
   rw[zeT,Array.mapM_eq_mapM_toList]
   simp only[Sem.run_bind,Sem.run_map,h3,Result.andThen_ok,Sem.run_pure]
  obtain⟨g1,g2,g3⟩:=zC2 hk1
  obtain⟨l1,l2,l3⟩:=zCZ hk2
  generalize hids:(List.range ks.length).set m idm=ids at hnd hk1 hk2 g1 g3 l3
  have hrl:ids.length=ks.length:=by rw[←hids,List.length_set,List.length_range]
  have idj: ∀ j,j <ks.length→j≠m→ids[j]? =some j:=fun j hj hjm=>by
   rw[←hids,List.getElem?_set_ne (fun q=>hjm q.symm)];simp[hj]
  have idmm:ids[m]? =some idm:=by rw[←hids,List.getElem?_set_self (by rw[List.length_range];exact hm)]
  have key: ∀ j,j <ks.length→ ∃ id k k2 bi B p,ids[j]? =some id∧kz[j]? =some k∧ks2[j]? =some k2∧Bs[j]? =some B∧s2.blk id=some (pinAB p k)∧lendB s2.blk ids k=some k2∧β' id=some bi∧BR β' S' w' bi (pinAB p k)∧(j≠m→k2.live=true→bi=B):=by
   intro j hj
   have hjd:j <ids.length:=by omega
   obtain⟨p,k,e1,e2,e3⟩:=g3 j _ (List.getElem?_eq_getElem hjd)
   obtain⟨k2,e4,e5⟩:=l3 j k e2
   have hjB:j <Bs.length:=by omega
   obtain⟨bi,c1,c2,_⟩:=hs'.hh.hblk _ _ e3
   refine⟨_,k,k2,bi,Bs[j],p,List.getElem?_eq_getElem hjd,e2,e4,List.getElem?_eq_getElem hjB,e3,e5,c1,c2,fun hjm lv=>?_⟩
   have e6:p=some Bs[j]:=by
    rw[List.getElem?_set_ne (fun q=>hjm q.symm)]at e1
    simp only[List.getElem?_map,List.getElem?_eq_getElem hjB,Option.map_some]at e1
    exact(Option.some.inj e1).symm
   subst e6
   refine c2.pinned _ ?_
   have hk:=(zA7 e5).2.1
   have hl:=(zA7 e5).1
   cases k <;>first|rfl|(rw[hl]at lv;cases lv)|cases hk
  obtain⟨Bz,hz1,hz2⟩: ∃ Bz:List BI,Bz.length=ks.length∧zDN β' ids Bz:=by
   refine⟨ids.map fun i=>(β' i).getD ⟨0,0,0,0⟩,by simp[hrl],fun j id hj=>?_⟩
   have hj2:j <ks.length:=by have:=(List.getElem?_eq_some_iff.1 hj).1;omega
   obtain⟨id',k,k2,bi,B,p,e0,e1,e2,e3,e4,e5,e6,e7,e8⟩:=key j hj2
   rw[hj]at e0
   obtain rfl:=Option.some.inj e0
   exact⟨bi,by simp[hj,e6],e6⟩
  have hmz:m <Bz.length:=by omega
  obtain⟨Bs',hb1,hb2,hb3,hb4⟩: ∃ Bs':List BI,Bs'.length=ks.length∧(∀ j,j≠m→Bs'[j]? =Bs[j]?)∧Bs'[m]? =Bz[m]? ∧ ∀ (j:Nat) k2,ks2[j]? =some k2→k2.live=true→Bz[j]? =Bs'[j]? :=by
   refine⟨Bs.set m Bz[m],by rw[List.length_set];exact hlen,fun j hj=>List.getElem?_set_ne (fun q=>hj q.symm),?_,fun j k2 hj lv=>?_⟩
   ·rw[List.getElem?_set_self (by omega),List.getElem?_eq_getElem hmz]
   ·have hj2:j <ks.length:=by have:=(List.getElem?_eq_some_iff.1 hj).1;omega
    by_cases e:j=m
    ·subst e;rw[List.getElem?_set_self (by omega),List.getElem?_eq_getElem hmz]
    ·rw[List.getElem?_set_ne (fun q=>e q.symm)]
     obtain⟨id',k,k2',bi,B,p,e0,e1,e2,e3,e4,e5,e6,e7,e8⟩:=key j hj2
     rw[hj]at e2
     obtain rfl:=Option.some.inj e2
     obtain⟨B',f1,f2⟩:=hz2 j id' e0
     rw[e6]at f2
     obtain rfl:=Option.some.inj f2
     rw[f1,e3,e8 e lv]
  have hfin: ∀ (j:Nat) k B,ks2[j]? =some k→Bs'[j]? =some B→BR (lentBs Bs') S' w' B (pinAB (some B) k):=by
   intro j k2 B hj hB
   have hj2:j <ks.length:=by have:=(List.getElem?_eq_some_iff.1 hj).1;omega
   obtain⟨id',k,k2',bi,B',p,e0,e1,e2,e3,e4,e5,e6,e7,e8⟩:=key j hj2
   rw[hj]at e2
   obtain rfl:=Option.some.inj e2
   have hok:=List.all_eq_true.1 hg _ (List.mem_of_getElem? hj)
   rw[Bool.and_eq_true]at hok
   rcases zCO hok.1 with rfl|hld
   ·exact trivial
   ·have hbb:bi=B:=by
     have f:=hb4 j k2 hj (zco hld)
     obtain⟨B2,f1,f2⟩:=hz2 j id' e0
     rw[e6]at f2
     obtain rfl:=Option.some.inj f2
     rw[f1,hB]at f
     exact Option.some.inj f
    subst hbb
    have:=zEQ hs'.hh hz2 e7 (by rw[zDZ];exact e5)
    refine zGY (fun i hL=>?_) hok.1 hok.2 this
    rw[List.getD_eq_getElem?_getD,List.getElem?_map]at hL
    cases q:ks2[i]? with
    |none=>rw[q]at hL;cases hL
    |some k3=>rw[q]at hL;exact hb4 i k3 q hL
  have hmv: ∀ B k,Bs'[m]? =some B→ks2[m]? =some k→k.live=true→w.heap.size≤B.b∨ ∃ B0 k0,Bs[m]? =some B0∧ks[m]? =some k0∧k0.live=true∧B0.b=B.b:=by
   intro B k2 q1 q2 lv
   obtain⟨id',k,k2',bi,B',p,e0,e1,e2,e3,e4,e5,e6,e7,e8⟩:=key m hm
   rw[q2]at e2
   obtain rfl:=Option.some.inj e2
   obtain⟨B2,f1,f2⟩:=hz2 m id' e0
   rw[e6]at f2
   obtain rfl:=Option.some.inj f2
   rw[hb3,f1]at q1
   obtain rfl:=Option.some.inj q1
   obtain⟨b2,c1,c2,c3⟩:=hs'.hh.hblk _ _ e4
   rw[e6]at c1
   obtain rfl:=Option.some.inj c1
   have lvk:(pinAB p k).live=true:=by rw[zAV, ←(zA7 e5).1];exact lv
   have hno:=c3 lvk
   by_cases hlt:bi.b <w.heap.size
   ·refine .inr ?_
    have: ∃ (j:Nat) (B:BI) (k0:AB),Bs[j]? =some B∧ks[j]? =some k0∧k0.live=true∧bi.b=B.b:=Classical.byContradiction fun hh=>hno ⟨hlt,fun j B k0 p1 p2 p3 p4=>hh ⟨j,B,k0,p1,p2,p3,p4⟩⟩
    obtain⟨j,B,k0,p1,p2,p3,p4⟩:=this
    by_cases hjm:j=m
    ·subst hjm;exact⟨B,k0,p1,p2,p3,p4.symm⟩
    ·exfalso
     have hj2:j <ks.length:=(List.getElem?_eq_some_iff.1 p2).1
     obtain⟨idj',kj,kj2,bj,Bj,pj,f0,f1,f2,f3,f4,f5,f6,f7,f8⟩:=key j hj2
     have lvj:kj2.live=true:=by
      have:=hlv j hjm
      simp only[List.getElem?_map,p2,f2,Option.map_some]at this
      rw[Option.some.inj this];exact p3
     have:=f8 hjm lvj
     subst this
     rw[p1]at f3
     obtain rfl:=Option.some.inj f3
     exact hs'.hh.hinj id' idj' bi _ _ _ (fun e=>hjm (zCP hnd j m idj' f0 (by rw[e0,e]))) e4 lvk f4 (by rw[zAV, ←(zA7 f5).1];exact lvj) e6 f6 p4
   ·exact .inl (by omega)
  have hpost:a'.defers=[]∧ ∃ v,(results fn a'.tmps).run P w'=.ok v w'∧ ∃ v2 S2 Bs',Ending.returned v=Ending.returned v2∧BelowP (butLs w Bs ks) w w'∧(∀ b o,S0 b o→S2 b o)∧(∀ b o,S2 b o→b <w.heap.size→S0 b o∨ ∃ B0 k0,Bs[m]? =some B0∧ks[m]? =some k0∧k0.live=true∧B0.b=b)∧(∀ b o,S2 b o→b <w'.heap.size)∧
   Bs'.length=ks.length∧(∀ j,j≠m→Bs'[j]? =Bs[j]?)∧(∀ B k,Bs'[m]? =some B→ks2[m]? =some k→k.live=true→w.heap.size≤B.b∨ ∃ B0 k0,Bs[m]? =some B0∧ks[m]? =some k0∧k0.live=true∧B0.b=B.b)∧
   (∀ (j:Nat) k B,ks2[j]? =some k→Bs'[j]? =some B→BR (lentBs Bs') S2 w' B (pinAB (some B) k))∧VR nb S2 w' v2 res:=
   ⟨hs'.hdefers,_,hres,_,S',Bs',rfl,hs'.hh.hbelow,hs'.hh.hold,?_,hs'.hh.hlt,hb1,hb2,hmv,hfin,zso hs'.hh h4 h5 h2 h6⟩
  ·rcases he with rfl|rfl
   ·exact hpost
   ·exact hpost
  ·intro b o q hlt
   refine Classical.or_iff_not_imp_right.2 fun hnm=>hs'.hh.hnew b o q ⟨hlt,fun j B k q1 q2 lv e=>?_⟩
   subst e
   by_cases hjm:j=m
   ·subst hjm;exact hnm ⟨B,k,q1,q2,lv,rfl⟩
   have hj2:j <ks.length:=(List.getElem?_eq_some_iff.1 q2).1
   have hj3:j <ks2.length:=by omega
   have e8:=List.getElem?_eq_getElem hj3
   have hl3:(ks2[j]).live=true:=by
    have:=hlv j hjm
    simp only[List.getElem?_map,q2,e8,Option.map_some]at this
    rw[Option.some.inj this];exact lv
   have hok:=List.all_eq_true.1 hg _ (List.getElem_mem hj3)
   rw[Bool.and_eq_true]at hok
   exact zEv (by rw[zFi];exact hok.1) (by rw[zAV];exact hl3) (hfin j _ B e8 (by rw[hb2 j hjm];exact q1)) o q
end
end Go.Aw
namespace Go.Aw
open Go.RowKit
section
variable {P:Program} {ty:Ty} {w0:B0} {nt:Nat} {s:AS} {d:Option Nat} {t:TypeId} {pos:String} {af:Array Edge} {g:Option (Nat×Bool)}
theorem TIs.array{u n e:Nat}{i:TI}{ci:TypeInfo}{dd:TypeDesc}{z:Value}(h:TIs P u i ci dd z)(hd:i.desc=.array n e):P.underlying u=some (.array n e):=by
 have:=h.desc
 rw[hd]at this
 cases dd <;>simp[descOK]at this
 obtain⟨rfl,rfl⟩:=this
 exact h.und
theorem zG6(hty:TyOK P ty){u n e:Nat}{i ei:TI}{parts:Array (Nat×Operand)}{xs:List (Nat×AV)}{cells:List AV}(hi:ty u=some i)(hd1:i.desc=.array n e)(he:ty e=some ei)
 (hp:zcN s parts.toList=some xs) (hb:bldA (fun k=>some (k*ei.size,ei.size)) i.zero xs=some cells) (hd:zt nt d=true):
 MStep P w0 nt ⟨d,.build u parts,t,pos,af,g⟩ s (.agg cells) []:=by
 intro t2 hle _
 refine zaE hd fun β S a w hs=>?_
 obtain⟨ci,dd,z,hI⟩:=hty.get hi
 obtain⟨cie,_,_,hE⟩:=hty.get he
 have hu:=hI.array hd1
 have hz:=zcU (β:=β) (S:=S) (w:=w) hI.zs
 obtain⟨e1,e2⟩:=zgE hs (zeZ hle hp)
 obtain⟨cs',r1,r2,r3⟩:=zqF (β:=β) (S:=S) (w:=w) (cs:=z.cells) (cells:=i.zero) (ps:=parts.toList.map fun q=>(q.1,a.eval q.2)) (by simpa using hz.1)
  (fun j hj=>by
    have:=hz.2 j hj
    rw[zag]at this
    rwa[Nat.zero_add]) (by simpa using e1) e2 hb
 have hbu:P.built u ((parts.map fun q=>(q.1,a.eval q.2)).toList)=some cs':=by
  unfold Program.built
  simp only[hI.info,hu,hI.zero,hE.info,hE.size]
  simpa using r1
 refine⟨.agg cs',?_,.agg _ _ r2 (fun j hj=>?_) (fun j hj=>?_)⟩
 ·have:=run_build w u _ cs' hbu
  simp[execOp,this]
 ·have:=(r3 j hj).1;rwa[Nat.zero_add]at this
 ·have:=(r3 j hj).2;rwa[Nat.zero_add]at this
theorem zG7(hty:TyOK P ty){u n e:Nat}{i ei:TI}{x y:Operand}{cells:List AV}{v:AV}{k:IntKind}{m:Int}(hi:ty u=some i)(hd1:i.desc=.array n e)(he:ty e=some ei)(hd2:ei.desc.isAgg=false)(hsz:ei.size=1)
 (hx:evO s x=some (.agg cells)) (hy:evO s y=some (.int k m)) (h0:0≤m) (hn:m <n) (hv:cells[m.toNat]? =some v) (hd:zt nt d=true):
 MStep P w0 nt ⟨d,.index u x y,t,pos,af,g⟩ s v []:=by
 intro t2 hle _
 refine zaE hd fun β S a w hs=>?_
 obtain⟨ci,dd,z,hI⟩:=hty.get hi
 obtain⟨cie,de,ze,hE⟩:=hty.get he
 have hu:=hI.array hd1
 have hxv:=zah hs (zV hle hx)
 have hyv:=zah hs (zV hle hy)
 generalize ex:a.eval x=vx at hxv
 generalize ey:a.eval y=vy at hyv
 cases hyv
 cases hxv with
 |agg cs xs h1 h3 h4=>
  obtain⟨hlt,hvv⟩:=List.getElem?_eq_some_iff.1 hv
  have hlt2:m.toNat <cs.size:=by omega
  have hg:=h3 m.toNat hlt
  rw[show cells.getD m.toNat .any=v by rw[List.getD_eq_getElem?_getD,hv];rfl]at hg
  have hc:cs[m.toNat]? =some (cs.getD m.toNat undef):=by simp[Array.getD,hlt2]
  refine⟨cs.getD m.toNat undef,?_,hg⟩
  have hs1:(sizeOf e).run P w=.ok 1 w:=by simp[sizeOf,typeInfo,hE.info,hE.size,hsz]
  have ha:=zfZ (w:=w) hE
  rw[hd2]at ha
  have hmn:0≤m∧m <(n:Int):=⟨h0,hn⟩
  have hp:(part e cs m.toNat).run P w=.ok (cs.getD m.toNat undef) w:=by
   unfold part
   rw[Sem.run_bind,ha,Result.andThen_ok]
   simp only[Bool.false_eq_true,if_false]
   rw[hc,Sem.run_pure]
  simp only[execOp,ex,ey,Instr.index,asIntOf,Sem.run_bind,Sem.run_pure,run_underlying hu,Result.andThen_ok,if_pos hmn,hs1,Nat.mul_one,hp]
theorem zHz(hty:TyOK P ty){u:TypeId}{x y z:Operand}{es:Nat}{rows:List (List AV)}{full:Bool}{k1 k2:IntKind}(hx:evO s x=some (.lst es rows full))(hq:zrE ty u es=true)
 (hy:evO s y=some (.int k1 rows.length)) (hz:evO s z=some (.int k2 rows.length)) (hd:zt nt d=true):
 MStep P w0 nt ⟨d,.slice u x none (some y) (some z),t,pos,af,g⟩ s (.lst es rows true) []:=by
 intro t2 hle _
 obtain⟨ui,e,ei,g1,g2,g3,g4⟩:=zmF hq
 refine zaE hd fun β S a w hs=>?_
 have hx1:=zah hs (zV hle hx)
 have hy1:=zah hs (zV hle hy)
 have hz1:=zah hs (zV hle hz)
 obtain⟨_,_,_,hU⟩:=hty.get g1
 obtain⟨ci,_,_,hE⟩:=hty.get g3
 have huu:=hU.slice g2
 generalize e1:a.eval x=cx at hx1
 generalize e2:a.eval y=cy at hy1
 generalize e3:a.eval z=cz at hz1
 cases hy1
 cases hz1
 have hrun: ∀ (ad:Option Addr) (cap:Nat),rows.length≤cap→cx=.slice ad rows.length cap→
  (execOp a.eval ⟨d,.slice u x none (some y) (some z),t,pos,af,g⟩).run P w=.ok (.value (.slice (if rows.length=0 then ad else ad.map (·.add 0)) rows.length rows.length)) w:=by
  intro ad cap hc e
  subst e
  simp[execOp,e1,e2,e3,Instr.sliceAt,Instr.slice,Instr.sliceBounds,Instr.sliceBound,asIntOf,run_underlying huu,sizeOf,typeInfo,hE.info]
  intro h;omega
 cases hx1 with
 |lst0=>
  exact⟨_,hrun none 0 (Nat.le_refl _) rfl,by simpa using VRi.lst0 es true⟩
 |lstZ ad=>
  exact⟨_,hrun (some ad) 0 (Nat.le_refl _) rfl,by simpa using VRi.lstZ ad es true⟩
 |lst b o n c _ _ _ cells q1 q2 q3 q4 q5 q6=>
  subst q1
  refine⟨_,hrun (some ⟨b,o,none⟩) c q2 rfl,?_⟩
  have:(if rows.length=0 then some (⟨b,o,none⟩:Addr)else(some (⟨b,o,none⟩:Addr)).map (·.add 0))=some ⟨b,o,none⟩:=by
   split
   ·rfl
   ·simp only[Option.map_some,Go.WideShapes.add_plain,Nat.add_zero]
  rw[this]
  exact .lst b o _ _ es _ _ cells rfl (Nat.le_refl _) (fun _=>rfl) q4 q5 q6
theorem zEH(id:Nat){p:Option BI}{k:AB}(hk:s.blk id=some (pinAB p k)):Less s (s.setB id (pinAB none k)):=by
 intro w0 nt β S a w hs
 have key: ∀ i k',(s.setB id (pinAB none k)).blk i=some k'→ ∃ k0,s.blk i=some k0∧k'.live=k0.live∧ ∀ bi,BR β S w bi k0→BR β S w bi k':=by
  intro i k' q
  by_cases e:i=id
  ·subst e
   obtain rfl:=Option.some.inj ((zR s.blk i (pinAB none k)).symm.trans q)
   exact⟨_,hk,by rw[zAV,zAV],fun bi hb=>hb.repin (fun _ q=>by cases q)⟩
  ·have q2:s.blk i=some k':=by rw[←zJ s.blk (pinAB none k) e];exact q
   exact⟨k',q2,rfl,fun _ h=>h⟩
 refine⟨β,S,⟨?_,?_,?_,hs.hh.hold,hs.hh.hnew,hs.hh.hlt,hs.hh.hbelow⟩,hs.henv,hs.hsize,hs.hdefers⟩
 ·intro i k' q
  obtain⟨k0,g1,g2,g3⟩:=key i k' q
  obtain⟨bi,e1,e2,e3⟩:=hs.hh.hblk i k0 g1
  exact⟨bi,e1,g3 bi e2,fun lv=>e3 (by rw[←g2];exact lv)⟩
 ·intro i b q
  by_cases e:i=id
  ·subst e;exact⟨_,zR _ _ _⟩
  ·obtain⟨k2,hk2⟩:=hs.hh.hdom i b q
   exact⟨k2,(zJ s.blk (pinAB none k) e).trans hk2⟩
 ·intro i j b1 b2 k1 k2 hne q1 l1 q2 l2 p1 p2
  obtain⟨c1,d1,d2,_⟩:=key i k1 q1
  obtain⟨c2,e1,e2,_⟩:=key j k2 q2
  exact hs.hh.hinj i j b1 b2 c1 c2 hne d1 (by rw[←d2];exact l1) e1 (by rw[←e2];exact l2) p1 p2
end
end Go.Aw
