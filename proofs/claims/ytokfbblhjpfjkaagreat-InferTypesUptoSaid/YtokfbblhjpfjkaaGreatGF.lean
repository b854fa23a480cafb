/- Places in terms: what stands at one, what a term is with another one there.; Red -/
import Derived.Test.YtokfbblhjpfjkaaGreatGC
import Derived.Test.YtokfbblhjpfjkaaGreatGB
import Derived.Test.YtokfbblhjpfjkaaGreatGD
import Derived.Test.YtokfbblhjpfjkaaGreatGE
set_option linter.unusedSimpArgs false
set_option linter.unusedVariables false
namespace Go.Proofs.YtokfbblhjpfjkaaGreat
open Go.Aw Go.RowKit
def zBQ:List (Nat×List Nat):=[(0,[]),(1,[0]),(2,[]),(3,[2]),(4,[2,3]),(5,[]),(6,[5]),(7,[]),(8,[7]),(9,[7,8]),(10,[5,6,7,8,9]),(11,[5,6,7,8,9,10]),(12,[]),(13,[12]),(14,[]),(15,[5,6,7,8,9,10,11,12,13,14]),(16,[0,1,2,3,4,5,6,7,8,9,10,11,12,13,14,15]),(17,[0,1,2,3,4,5,6,7,8,9,10,11,12,13,14,15,16])]
attribute [local irreducible] WL AC WD WE MStep OkOp
abbrev sI(l:List Int):AV:=.lst 1 (rsI l) false
theorem zvE(a b:List Int):rsI (a++b)=rsI a++rsI b:=by simp[rsI]
def zaZ:Tm→List Int→Option Tm
 |t,[]=>some t
 |t,k::p=>if 0≤k∧k <t.kids.length then zaZ (t.kids.getD k.toNat zT) p else none
theorem zeP: ∀ (a b:List Int) (t:Tm),zaZ t (a++b)=(zaZ t a).bind fun u=>zaZ u b
 |[],b,t=>rfl
 |k::a,b,t=>by
  simp only[List.cons_append,zaZ]
  split
  ·exact zeP a b _
  ·rfl
theorem zox{p:List Int}{j:Nat}{k:Int}(h:p[j]? =some k)(t:Tm):zaZ t (p.take (j+1))=(zaZ t (p.take j)).bind fun u=>if 0≤k∧k <u.kids.length then some (u.kids.getD k.toNat zT)else none:=by
 rw[List.take_add_one,h,Option.toList_some,zeP];rfl
theorem zoz{p:List Int}{j:Nat}{t:Tm}(h:zaZ t (p.take j)=none):zaZ t p=none:=by
 rw[←List.take_append_drop j p,zeP,h];rfl
theorem zrq{l:List Tm}{i:Nat}(h:i <l.length):(l.getD i zT).size≤sizes l:=by
 rw[List.getD_eq_getElem?_getD,List.getElem?_eq_getElem h]
 exact zK (List.getElem_mem h)
theorem zgM: ∀ (p:List Int) (t u:Tm),zaZ t p=some u→u.size≤t.size
 |[],t,u,h=>by obtain rfl:=Option.some.inj h;exact Nat.le_refl _
 |k::p,t,u,h=>by
  simp only[zaZ]at h
  split at h
  ·rename_i hk
   have:=zgM p _ u h
   have:=zrq (l:=t.kids) (i:=k.toNat) (by omega)
   have:=t.size_eq
   omega
  ·cases h
theorem zr8(t:Tm)(p:List Int)(ht:t.size≤1048576)(hp:p.length≤1048576):FC Tryz.prog 94 [aT t,sI p] (.tup [aT ((zaZ t p).getD zT),.bool (zaZ t p).isSome]):=by
 refine zo hty Tryz.func94 rfl rfl rfl fun w0=>?_
 repeat'(first|refine WL_p hty rfl rfl ?_|refine zh ?_|refine zi ?_|refine za ?_|refine zf ?_)
 refine zW p.length (fun j=>(zaZ t (p.take j)).isSome=true) (fun j=>⟨envOf [(2,.ptr 2 0),(4,.ptr 4 0),(8,sI p),(9,.int .i64 ((rsI p).length:Nat)),(10,.int .i64 (j:Nat))],bkOf [(2,.box (cT ((zaZ t (p.take j)).getD zT))),(4,.box [.int .i64 0,.int .i64 0,.lst 3 [] true])]⟩)
  (zfY ⟨zz rfl rfl,zz rfl rfl,zz rfl rfl,zz rfl rfl,zz rfl rfl,trivial⟩ ⟨zw rfl rfl,zw rfl rfl,trivial⟩) rfl ?_
 intro j hj hI
 obtain⟨u,hu⟩:=Option.isSome_iff_exists.1 hI
 have husz:=zgM _ _ _ hu
 have hus:=u.size_eq
 have hul:=zM u.kids
 rw[hu,Option.getD_some]
 repeat'(first|refine zi ?_|refine za ?_)
 refine zj rfl rfl rfl rfl (fun hc=>?_) (fun hc=>?_)
 ·have hlt:j <p.length:=by rw[zap]at hc;omega
  obtain⟨k,hk,hmem⟩:=zA hlt
  have rk:=zd6 hk
  have hn:=zox hk t
  rw[hu]at hn
  have hn:zaZ t (p.take (j+1))=if 0≤k∧k <u.kids.length then some (u.kids.getD k.toNat zT)else none:=hn
  have hrl:(rsT u.kids).length=u.kids.length:=zeb _
  by_cases hok:0≤k∧k <u.kids.length
  ·rw[if_pos hok]at hn
   obtain⟨c,hcg,_⟩:=zA (show k.toNat <u.kids.length by omega)
   have rc:=zac hcg
   have hgd:u.kids.getD k.toNat zT=c:=by rw[List.getD_eq_getElem?_getD,hcg];rfl
   rw[hgd]at hn
   have h0:=hok.1
   repeat'(first|exact absurd (show(0:Int)≤k from h0) (Int.not_le.2 ‹_›)|exact absurd (show k <((rsT u.kids).length:Nat) by omega) (Int.not_lt.2 ‹_›)|refine WL_m rfl (zaq hty rfl rfl rfl h0 rc rfl) ?_|refine WL_p hty rfl rfl ?_|refine zh ?_|refine zi ?_|refine za ?_|refine zf ?_|refine zxg ?_|refine zd rfl ?_|refine zbZ rfl ?_|refine zx rfl rfl ?_|refine WL_m rfl (zm hty rfl rfl rfl (by assumption) rfl) ?_|refine zj rfl rfl rfl rfl (fun _=>?_) (fun _=>?_))
   refine⟨hlt,by rw[hn];rfl,(zfY ⟨zz rfl rfl,zz rfl rfl,zz rfl rfl,zz rfl rfl,⟨_,rfl,zO ?_ rfl⟩,trivial⟩ ⟨⟨⟨_,rfl,.of_eq ?_⟩,rfl⟩,zw rfl rfl,trivial⟩)⟩
   ·exact congrArg (AV.int .i64) ((zy (by omega) (by omega)).trans (by omega))
   ·rw[hn];rfl
  ·rw[if_neg hok]at hn
   have hno:=zoz hn
   rw[hno]
   repeat'(first|(refine zhH (id:=6) ?_;exfalso;omega)|refine WL_p hty rfl rfl ?_|refine zh ?_|refine zi ?_|refine za ?_|refine zf ?_|refine zxg ?_|refine zd rfl ?_|refine zbZ rfl ?_|refine zg ?_|refine zx rfl rfl ?_|refine zot rfl rfl rfl ?_|refine WL_m rfl (zm hty rfl rfl rfl (by assumption) rfl) ?_|refine zj rfl rfl rfl rfl (fun _=>?_) (fun _=>?_))
   all_goals
    refine zH rfl rfl (.tup (.cons (.agg ?_) (.cons (.refl _) .nil)))
    repeat'(first|exact Wks.nil|refine Wks.cons (Wk.refl _) ?_|refine Wks.cons (Wk.full _ _ _) ?_)
 ·obtain rfl:j=p.length:=by rw[zap]at hc;omega
  rw[List.take_length]at hu
  rw[hu]
  repeat'(first|refine WL_p hty rfl rfl ?_|refine zh ?_|refine zi ?_|refine za ?_|refine zbZ rfl ?_|refine zl ?_|refine zg ?_)
  exact zH rfl rfl (.refl _)
def setT:Tm→List Int→Tm→Tm
 |_,[],u=>u
 |t,k::p,u=>.mk t.kind t.num (t.kids.set k.toNat (setT (t.kids.getD k.toNat zT) p u))
theorem zph(l:List Tm)(hne:l≠[])(hl:l.length≤1048576):FC Tryz.prog 138 [sT l] (.own 25 3 (rsT l) true):=by
 cases l with
 |nil=>exact absurd rfl hne
 |cons a l=>
  have hlr:(rsT (a::l)).length≤1048576:=by rw[zeb];exact hl
  have hsl:zsV Tryz.prog 23=true:=by kernel_rfl
  rw[show(sT (a::l):AV)=.lst 3 (cT a::rsT l) false by rw[←rsc]]
  rw[rsc]at hlr⊢
  refine zo hty Tryz.func138 rfl rfl rfl fun w0=>?_
  repeat'(first|refine WL_m rfl (zsI rfl hsl rfl) ?_|refine WL_m rfl (ze7 hty 20 rfl rfl rfl rfl rfl rfl rfl (List.cons_ne_nil _ _) (by simp only[List.length_nil,List.length_cons]at*;omega) rfl rfl rfl) ?_|refine WL_p hty rfl rfl ?_|refine zh ?_|refine zi ?_|refine za ?_|refine zxg ?_|refine zbZ rfl ?_|refine zg ?_)
  exact zes rfl rfl rfl
theorem znx: ∀ (p:List Int) (t u:Tm),t.size≤1048576→p.length≤1048576→(zaZ t p).isSome=true→FC Tryz.prog 96 [aT t,sI p,aT u] (aT (setT t p u))
 |[],t,u,ht,hp,hf=>by
  refine zo hty Tryz.func96 rfl rfl rfl fun w0=>?_
  repeat'(first|exact absurd rfl ‹_›|refine WL_p hty rfl rfl ?_|refine zh ?_|refine zi ?_|refine za ?_|refine zd rfl ?_|refine zg ?_|refine zj rfl rfl rfl rfl (fun _=>?_) (fun _=>?_))
  exact zH rfl rfl (.refl _)
 |k::p,t,u,ht,hp,hf=>by
  have hts:=t.size_eq
  have htl:=zM t.kids
  have hok:0≤k∧k <t.kids.length:=by
   simp only[zaZ]at hf
   split at hf
   ·assumption
   ·cases hf
  simp only[zaZ,if_pos hok]at hf
  obtain⟨c,hcg,hcm⟩:=zA (show k.toNat <t.kids.length by omega)
  have hcs:=zK hcm
  have rc:=zac hcg
  have hgd:t.kids.getD k.toNat zT=c:=by rw[List.getD_eq_getElem?_getD,hcg];rfl
  rw[hgd]at hf
  have hlen:(k::p).length=p.length+1:=rfl
  have ih:=znx p c u (by omega) (by omega) hf
  have hcl:=zph t.kids (fun q=>by rw[q]at hcg;simp at hcg) (by omega)
  have hst:setT t (k::p) u=.mk t.kind t.num (t.kids.set k.toNat (setT c p u)):=by rw[setT,hgd]
  rw[hst]
  generalize setT c p u=r at ih
  have hpl:(rsI (k::p)).length=p.length+1:=by rw[zap];rfl
  have r0:(rsI (k::p))[0]? =some [.int .i64 k]:=rfl
  have hsp:(sI p:AV)=.lst 1 (((rsI (k::p)).take (rsI (k::p)).length).drop 1) false:=by rw[List.take_length];rfl
  rw[hsp]at ih
  have h0:=hok.1
  show FC Tryz.prog 96 [aT t,.lst 1 (rsI (k::p)) false,aT u] _
  generalize hri:rsI (k::p)=ri at*
  refine zo hty Tryz.func96 rfl rfl rfl fun w0=>?_
  repeat'(first|(refine zj rfl rfl rfl rfl (fun hq=>absurd (show((ri.length:Nat):Int)=0 from hq) (by omega)) (fun _=>?_))|refine zv 113 rfl hcl rfl rfl rfl ?_|(refine zhH (id:=4) ?_;refine zD (id:=4) zBQ rfl (by kernel_rfl) ?_)|refine zbc rfl (zm (i:=0) hty rfl rfl rfl r0 rfl) ?_|refine zbc rfl (zbO hty 1 ri.length rfl rfl ⟨_,1,rfl,rfl⟩ rfl (by omega) (Nat.le_refl _) rfl) ?_|refine zad 0 rfl ih rfl rfl rfl ?_|refine zbc rfl (zgs hty rfl rfl rfl rfl rfl h0 (by rw[zeb];exact hok.2) rfl) ?_|refine zbc rfl (zmC hty rfl rfl rfl rfl rc rfl rfl rfl) ?_|refine zbc rfl (zdK hty rfl rfl rfl rfl rc rfl rfl rfl rfl rfl) ?_|refine zu (.inl ⟨rfl,zI hty rfl rfl⟩) ?_|refine zS ⟨by kernel_rfl,?_⟩|refine WL_p hty rfl rfl ?_|refine zh ?_|refine zi ?_|refine za ?_|refine zxg ?_|refine zbZ rfl ?_|refine zg ?_)
  refine zbm (zaF 113 rfl) ?_
  refine zH rfl rfl (.of_eq ?_)
  have hrs:(rsT t.kids).set k.toNat (cT r)=rsT (t.kids.set k.toNat r):=by rw[zbq,zbq,List.map_set, ←zfl]
  exact congrArg (fun x=>AV.agg [.int .i64 t.kind,.int .i64 t.num,.lst 3 x false]) hrs
end Go.Proofs.YtokfbblhjpfjkaaGreat
namespace Go.Proofs.YtokfbblhjpfjkaaGreat
open Go.Aw Go.RowKit
attribute [local irreducible] WL AC WD WE MStep OkOp
attribute [local irreducible] zfd
theorem zkW: ∀ (p:List Int) (t u:Tm),(zaZ t p).isSome=true→(setT t p u).size≤t.size+u.size
 |[],t,u,_=>by simp[setT]
 |k::p,t,u,h=>by
  simp only[zaZ]at h
  split at h
  ·rename_i hk
   have ih:=zkW p (t.kids.getD k.toNat zT) u h
   have hlt:k.toNat <t.kids.length:=by omega
   have hs: ∀ (l:List Tm) (i:Nat) (x:Tm),i <l.length→sizes (l.set i x)+(l.getD i zT).size=sizes l+x.size:=by
    intro l
    induction l with
    |nil=>intro i x hi;simp at hi
    |cons a l ihl=>
     intro i x hi
     cases i with
     |zero=>simp[sizes];omega
     |succ i=>have:=ihl i x (by simpa using hi);simp only[List.set_cons_succ,sizes,List.getD_cons_succ];omega
   have:=hs t.kids k.toNat (setT (t.kids.getD k.toNat zT) p u) hlt
   have ht:=t.size_eq
   simp only[setT,Tm.size]
   omega
  ·cases h
theorem zg7: ∀ (p:List Int) (t u:Tm),zaZ t p=some u→formedT t=true→formedT u=true
 |[],t,u,h,hf=>by obtain rfl:=Option.some.inj h;exact hf
 |k::p,t,u,h,hf=>by
  simp only[zaZ]at h
  split at h
  ·rename_i hk
   refine zg7 p _ u h (zao hf ?_)
   rw[List.getD_eq_getElem?_getD,List.getElem?_eq_getElem (show k.toNat <t.kids.length by omega)]
   exact List.getElem_mem _
  ·cases h
def zb6(t:Tm):Tm×Int:=if checkT t≠0 then(zT,checkT t)else(t,0)
theorem zpO(t:Tm)(ht:t.size≤4194304):FC Tryz.prog 95 [aT t] (.tup [aT (zb6 t).1,.int .i64 (zb6 t).2]):=by
 have hc:=zl2 t ht
 unfold zb6
 refine zo hty Tryz.func95 rfl rfl rfl fun w0=>?_
 repeat'(first|refine zv 0 rfl hc rfl rfl rfl ?_|refine WL_p hty rfl rfl ?_|refine zh ?_|refine zi ?_|refine za ?_|refine zxg ?_|refine zd rfl ?_|refine zbZ rfl ?_|refine zg ?_|refine zj rfl rfl rfl rfl (fun _=>?_) (fun _=>?_))
 ·rw[if_pos (by assumption)]
  refine zH rfl rfl (.tup (.cons (.agg ?_) (.cons (.refl _) .nil)))
  repeat'(first|exact Wks.nil|refine Wks.cons (Wk.refl _) ?_|refine Wks.cons (Wk.full _ _ _) ?_)
 ·rw[if_neg (by assumption)]
  exact zH rfl rfl (.refl _)
def atR(t:Tm)(p:List Int):Tm×Int:=if checkT t≠0 then(zT,checkT t)else match zaZ t p with
 |none=>(zT,10)
 |some u=>(u,0)
def zvY(t:Tm)(p:List Int)(u:Tm):Tm×Int:=if checkT t≠0 then(zT,checkT t)else if checkT u≠0 then(zT,checkT u)else if(zaZ t p).isSome=true then zb6 (setT t p u)else(zT,10)
structure LK (es:Nat) (rows:List (List AV)) (full:Bool) (chk:Int) (lk:Tm→Option (Tm×Int)):Prop where
 ck:FC Tryz.prog 46 [.lst es rows full] (.int .i64 chk)
 look:chk=0→ ∀ t,t.size≤6000→formedT t=true→ ∃ v,Runs v (lk t)∧FC Tryz.prog 81 [.lst es rows full,aT t] v
 size: ∀ t u,t.size≤6000→lk t=some u→u.1.size≤1048576
mutual
def zc0(lk:Tm→Option (Tm×Int)):Tm→Option (List Int)
 | .mk k n l=>match lk (.mk k n l)with
   |some _=>some []
   |none=>zbj lk 0 l
def zbj(lk:Tm→Option (Tm×Int)):Int→List Tm→Option (List Int)
 |_,[]=>none
 |i,t::l=>match zc0 lk t with
  |some p=>some (i::p)
  |none=>zbj lk (i+1) l
end
theorem zlA(lk:Tm→Option (Tm×Int))(t:Tm):zc0 lk t=match lk t with|some _=>some []|none=>zbj lk 0 t.kids:=by cases t;rw[zc0];rfl
theorem zdN(lk:Tm→Option (Tm×Int)): ∀ (a b:List Tm) (i:Int),zbj lk i a=none→zbj lk i (a++b)=zbj lk (i+a.length) b
 |[],b,i,_=>by simp
 |t::a,b,i,h=>by
  simp only[zbj]at h
  split at h
  ·cases h
  ·rename_i ht
   simp only[List.cons_append,zbj,ht,List.length_cons]
   rw[zdN lk a b (i+1) h,show i+1+(a.length:Int)=i+((a.length+1:Nat):Int) by omega]
theorem zmE{lk:Tm→Option (Tm×Int)}{l:List Tm}{j:Nat}{k:Tm}(h:l[j]? =some k)(h0:zbj lk 0 (l.take j)=none)(h1:zc0 lk k=none):zbj lk 0 (l.take (j+1))=none:=by
 rw[List.take_add_one,h,Option.toList_some,zdN lk _ _ 0 h0]
 simp[zbj,h1]
theorem zns{lk:Tm→Option (Tm×Int)}{l:List Tm}{j:Nat}{k:Tm}{p:List Int}(h:l[j]? =some k)(h0:zbj lk 0 (l.take j)=none)(h1:zc0 lk k=some p):zbj lk 0 l=some ((j:Int)::p):=by
 have hlt:j <l.length:=(List.getElem?_eq_some_iff.1 h).1
 conv=>lhs;rw[←List.take_append_drop j l]
 rw[zdN lk _ _ 0 h0,List.drop_eq_getElem_cons hlt]
 have:l[j]=k:=by rw[List.getElem?_eq_getElem hlt]at h;exact Option.some.inj h
 rw[this]
 simp only[zbj,h1,List.length_take,Nat.min_eq_left (Nat.le_of_lt hlt),Int.zero_add]
def zup:Option (List Int)→AV
 |none=>.tup [sI [],.bool false]
 |some p=>.tup [sI p,.bool true]
theorem zpk(lk:Tm→Option (Tm×Int)): ∀ (n:Nat) (t:Tm) (p:List Int),t.size≤n→zc0 lk t=some p→p.length <n:=by
 intro n
 induction n with
 |zero=>intro t p ht;have:=t.size_pos;omega
 |succ n ih=>
  intro t p ht h
  rw[zlA]at h
  split at h
  ·obtain rfl:=Option.some.inj h;simp
  ·have hs:=t.size_eq
   have: ∀ (l:List Tm) (i:Int) (p:List Int),sizes l≤n→zbj lk i l=some p→p.length≤n:=by
    intro l
    induction l with
    |nil=>intro i p _ h;simp[zbj]at h
    |cons a l ihl=>
     intro i p hl h
     simp only[sizes]at hl
     simp only[zbj]at h
     split at h
     ·rename_i q hq
      obtain rfl:=Option.some.inj h
      have:=ih a q (by omega) hq
      simp only[List.length_cons];omega
     ·exact ihl (i+1) p (by omega) h
   have:=this t.kids 0 p (by omega) h
   omega
set_option maxHeartbeats 4000000 in
theorem zq0{es:Nat}{rows:List (List AV)}{full:Bool}{lk:Tm→Option (Tm×Int)}(hlk:LK es rows full 0 lk): ∀ n,n≤6000→ ∀ t:Tm,t.size≤n→formedT t=true→FC Tryz.prog 51 [.lst es rows full,aT t] (zup (zc0 lk t)):=by
 intro n
 induction n with
 |zero=>intro _ t ht;have:=t.size_pos;omega
 |succ n ih=>
 intro hn t ht hfm
 have hs:=t.size_eq
 have htl:=zM t.kids
 obtain⟨v,hrv,hl⟩:=hlk.look rfl t (by omega) hfm
 obtain⟨ht1,ht2,ht3⟩:=hrv.thaw
 have hpe:=zlA lk t
 cases h:lk t with
 |some u=>
  rw[h]at hpe hrv
  obtain⟨g,xa,rfl,hxa,hfc⟩:=hrv
  rw[show zc0 lk t=some []from hpe]
  refine zo hty Tryz.func51 rfl rfl rfl fun w0=>?_
  repeat'(first|refine zv 0 rfl hl ht1 rfl rfl ?_|(refine WL_m rfl (zqN (v:=.fn (.func g) [] xa) ?_ rfl ?_ zqK rfl) ?_;(focus rfl);(focus rfl))|refine WL_p hty rfl rfl ?_|refine zh ?_|refine zi ?_|refine za ?_|refine zd rfl ?_|refine zg ?_)
  exact zH rfl rfl (.tup (.cons (.nilF _ _ _) (.cons (.refl _) .nil)))
 |none=>
  rw[h]at hpe hrv
  obtain rfl:v=.nilf:=hrv
  have hpe:zc0 lk t=zbj lk 0 t.kids:=hpe
  rw[hpe]
  refine zo hty Tryz.func51 rfl rfl rfl fun w0=>?_
  repeat'(first|refine zv 0 rfl hl rfl rfl rfl ?_|(refine WL_m rfl (zqN (v:=.nilf) ?_ rfl ?_ zqK rfl) ?_;(focus rfl);(focus rfl))|refine WL_p hty rfl rfl ?_|refine zh ?_|refine zi ?_|refine za ?_|refine zf ?_|refine zxg ?_|refine zbZ rfl ?_)
  refine zW t.kids.length (fun j=>zbj lk 0 (t.kids.take j)=none) (fun j=>⟨envOf [(0,.lst es rows full),(15,sT t.kids),(16,.int .i64 ((rsT t.kids).length:Nat)),(17,.int .i64 (j:Nat))],bkOf []⟩)
   (zfY ⟨zz rfl rfl,zz rfl rfl,zz rfl rfl,zz rfl rfl,trivial⟩ trivial) rfl ?_
  intro j hj hI
  repeat'(first|refine zi ?_|refine za ?_)
  refine zj rfl rfl rfl rfl (fun hc=>?_) (fun hc=>?_)
  ·have hlt:j <t.kids.length:=by rw[zeb]at hc;omega
   obtain⟨k,hk,hmem⟩:=zA hlt
   have hks:=zK hmem
   have rk:=zac hk
   have hkf:=ih (by omega) k (by omega) (zao hfm hmem)
   cases hp:zc0 lk k with
   |none=>
    rw[hp]at hkf
    repeat'(first|refine zv 0 rfl hkf rfl rfl rfl ?_|refine WL_p hty rfl rfl ?_|refine zh ?_|refine zi ?_|refine za ?_|refine zf ?_|refine zxg ?_|refine zd rfl ?_|refine zbZ rfl ?_|refine WL_m rfl (zm hty rfl rfl rfl (by assumption) rfl) ?_)
    refine⟨hlt,zmE hk hI hp,(zfY ⟨zz rfl rfl,zz rfl rfl,zz rfl rfl,⟨_,rfl,zO ?_ rfl⟩,trivial⟩ trivial)⟩
    exact congrArg (AV.int .i64) ((zy (by omega) (by omega)).trans (by omega))
   |some p=>
    rw[hp]at hkf
    rw[zns hk hI hp]
    have hpl:=zpk lk 6000 k p (by omega) hp
    cases p with
    |nil=>
     repeat'(first|refine zv 0 rfl hkf rfl rfl rfl ?_|refine WL_m rfl (zlC hty rfl rfl rfl rfl rfl rfl rfl) ?_|refine WL_p hty rfl rfl ?_|refine zh ?_|refine zi ?_|refine za ?_|refine zf ?_|refine zxg ?_|refine zd rfl ?_|refine zg ?_|refine WL_m rfl (zm hty rfl rfl rfl (by assumption) rfl) ?_)
     exact zH rfl rfl (.tup (.cons (.full _ _ _) (.cons (.refl _) .nil)))
    |cons x p=>
     have hxl:(rsI (x::p)).length=p.length+1:=by rw[zap];rfl
     simp only[List.length_cons]at hpl
     repeat'(first|refine zv 0 rfl hkf rfl rfl rfl ?_|refine WL_m rfl (ze7 hty 32 rfl rfl rfl rfl rfl rfl rfl (List.cons_ne_nil _ _) (by simp only[List.length_nil,List.length_cons]at*;omega) rfl rfl rfl) ?_|refine WL_p hty rfl rfl ?_|refine zh ?_|refine zi ?_|refine za ?_|refine zf ?_|refine zxg ?_|refine zd rfl ?_|refine zg ?_|refine WL_m rfl (zm hty rfl rfl rfl (by assumption) rfl) ?_)
     refine zbm (zaF 32 rfl) ?_
     exact zH rfl rfl (.refl _)
  ·obtain rfl:j=t.kids.length:=by rw[zeb]at hc;omega
   rw[List.take_length]at hI
   rw[hI]
   repeat'(first|refine WL_p hty rfl rfl ?_|refine zh ?_|refine zi ?_|refine za ?_|refine zbZ rfl ?_|refine zl ?_|refine zg ?_)
   exact zH rfl rfl (.tup (.cons (.nilF _ _ _) (.cons (.refl _) .nil)))
end Go.Proofs.YtokfbblhjpfjkaaGreat
namespace Go.Proofs.YtokfbblhjpfjkaaGreat
open Go.Aw Go.RowKit
attribute [local irreducible] WL AC WD WE MStep OkOp
attribute [local irreducible] zfd
def zfv(chk:Int)(lk:Tm→Option (Tm×Int))(t:Tm):Option (List Int):=if chk≠0 then none else if checkT t≠0 then none else zc0 lk t
def makeR(lk:Tm→Option (Tm×Int))(t:Tm)(p:List Int):Tm×Int:=match zaZ t p with
 |none=>(zT,10)
 |some u=>match lk u with
  |none=>(zT,10)
  |some r=>if r.2≠0 then(zT,r.2)else zb6 (setT t p r.1)
set_option maxHeartbeats 4000000 in
theorem zoB{es:Nat}{rows:List (List AV)}{full:Bool}{lk:Tm→Option (Tm×Int)}(hlk:LK es rows full 0 lk)(t:Tm)(p:List Int)(ht:t.size≤6000)(hfm:formedT t=true)(hp:p.length≤1048576):
 FC Tryz.prog 56 [.lst es rows full,aT t,sI p] (.tup [aT (makeR lk t p).1,.int .i64 (makeR lk t p).2]):=by
 have hf:=zr8 t p (by omega) hp
 cases h:zaZ t p with
 |none=>
  have hr:makeR lk t p=(zT,10):=by unfold makeR;rw[h]
  rw[h]at hf
  rw[hr]
  refine zo hty Tryz.func56 rfl rfl rfl fun w0=>?_
  repeat'(first|refine zv 0 rfl hf rfl rfl rfl ?_|refine WL_p hty rfl rfl ?_|refine zh ?_|refine zi ?_|refine za ?_|refine zd rfl ?_|refine zg ?_)
  refine zH rfl rfl (.tup (.cons (.agg ?_) (.cons (.refl _) .nil)))
  repeat'(first|exact Wks.nil|refine Wks.cons (Wk.refl _) ?_|refine Wks.cons (Wk.full _ _ _) ?_)
 |some u=>
  have hus:=zgM _ _ _ h
  have hst: ∀ x,FC Tryz.prog 96 [aT t,sI p,aT x] (aT (setT t p x)):=fun x=>znx p t x (by omega) hp (by rw[h];rfl)
  have hss: ∀ x,(setT t p x).size≤t.size+x.size:=fun x=>zkW p t x (by rw[h];rfl)
  obtain⟨v,hrv,hl⟩:=hlk.look rfl u (by omega) (zg7 _ _ _ h hfm)
  obtain⟨ht1,ht2,ht3⟩:=hrv.thaw
  rw[h,Option.getD_some]at hf
  cases hk:lk u with
  |none=>
   have hr:makeR lk t p=(zT,10):=by unfold makeR;simp only[h,hk]
   rw[hk]at hrv
   obtain rfl:v=.nilf:=hrv
   rw[hr]
   refine zo hty Tryz.func56 rfl rfl rfl fun w0=>?_
   repeat'(first|refine zv 0 rfl hf rfl rfl rfl ?_|refine zv 0 rfl hl rfl rfl rfl ?_|(refine WL_m rfl (zqi (v:=.nilf) ?_ rfl ?_ zqK rfl) ?_;(focus rfl);(focus rfl))|refine WL_p hty rfl rfl ?_|refine zh ?_|refine zi ?_|refine za ?_|refine zxg ?_|refine zd rfl ?_|refine zbZ rfl ?_|refine zg ?_)
   refine zH rfl rfl (.tup (.cons (.agg ?_) (.cons (.refl _) .nil)))
   repeat'(first|exact Wks.nil|refine Wks.cons (Wk.refl _) ?_|refine Wks.cons (Wk.full _ _ _) ?_)
  |some r=>
   have hr:makeR lk t p=if r.2≠0 then(zT,r.2)else zb6 (setT t p r.1):=by unfold makeR;simp only[h,hk]
   have hrz:=hlk.size u r (by omega) hk
   have h2:=hst r.1
   have h3:=zpO (setT t p r.1) (by have:=hss r.1;omega)
   rw[hk]at hrv
   obtain⟨g,xa,rfl,hxa,hfc⟩:=hrv
   rw[hr]
   refine zo hty Tryz.func56 rfl rfl rfl fun w0=>?_
   repeat'(first|refine zv 0 rfl hf rfl rfl rfl ?_|refine zv 0 rfl hl ht1 rfl rfl ?_|(refine WL_m rfl (zqi (v:=.fn (.func g) [] xa) ?_ rfl ?_ zqK rfl) ?_;(focus rfl);(focus rfl))|refine WL_m rfl (zct 0 rfl (by simp[hxa]) rfl hfc rfl rfl rfl) ?_|refine zv 0 rfl h2 rfl rfl rfl ?_|refine zv 0 rfl h3 rfl rfl rfl ?_|refine WL_p hty rfl rfl ?_|refine zh ?_|refine zi ?_|refine za ?_|refine zxg ?_|refine zd rfl ?_|refine zbZ rfl ?_|refine zg ?_|refine zj rfl rfl rfl rfl (fun _=>?_) (fun _=>?_))
   ·rw[if_pos (by assumption)]
    refine zH rfl rfl (.tup (.cons (.agg ?_) (.cons (.refl _) .nil)))
    repeat'(first|exact Wks.nil|refine Wks.cons (Wk.refl _) ?_|refine Wks.cons (Wk.full _ _ _) ?_)
   ·rw[if_neg (by assumption)]
    exact zH rfl rfl (.refl _)
def doR(chk:Int)(lk:Tm→Option (Tm×Int))(t:Tm)(p:List Int):Tm×Int:=if chk≠0 then(zT,chk)else if checkT t≠0 then(zT,checkT t)else if(makeR lk t p).2≠0 then(zT,(makeR lk t p).2)else((makeR lk t p).1,0)
end Go.Proofs.YtokfbblhjpfjkaaGreat
namespace Go.Proofs.YtokfbblhjpfjkaaGreat
open Go.Aw Go.RowKit
theorem zhz(k n:Int)(l:List Tm):(Tm.mk k n l).kids=l:=rfl
theorem zqe(k n:Int)(l:List Tm):(Tm.mk k n l).kind=k:=rfl
theorem zrF(k n:Int)(l:List Tm):(Tm.mk k n l).num=n:=rfl
theorem zvv{t:Tm}(h1:t.size≤6000)(h2:t.depth≤200)(h3:formedT t=true):checkT t=0:=by
 unfold checkT
 rw[if_neg (by omega),if_neg (by omega),if_pos h3]
theorem zkp: ∀ (p:List Int) (t u:Tm),zaZ t p=some u→u.depth≤t.depth
 |[],t,u,h=>by obtain rfl:=Option.some.inj h;exact Nat.le_refl _
 |k::p,t,u,h=>by
  simp only[zaZ]at h
  split at h
  ·rename_i hk
   have h1:=zkp p _ u h
   have hm:t.kids.getD k.toNat zT∈t.kids:=by
    rw[List.getD_eq_getElem?_getD,List.getElem?_eq_getElem (show k.toNat <t.kids.length by omega)]
    exact List.getElem_mem _
   have h2:=zaU hm
   have h3:=t.depth_eq
   omega
  ·cases h
theorem zql{t u:Tm}{p:List Int}(h:checkT t=0)(hf:zaZ t p=some u):checkT u=0:=by
 obtain⟨h1,h2,h3⟩:=zcH h
 have:=zgM p t u hf
 have:=zkp p t u hf
 exact zvv (by omega) (by omega) (zg7 p t u hf h3)
theorem zvU{t:Tm}{p:List Int}(h:(atR t p).2=0):checkT t=0∧zaZ t p=some (atR t p).1:=by
 unfold atR at h⊢
 split at h
 ·rename_i q;exact absurd h q
 ·rename_i q
  rw[if_neg q]
  cases hf:zaZ t p with
  |none=>rw[hf]at h;cases h
  |some u=>exact⟨Classical.not_not.1 q,rfl⟩
theorem zwg{t u:Tm}{p:List Int}(h:checkT t=0)(hf:zaZ t p=some u):atR t p=(u,0):=by
 unfold atR;rw[if_neg (by omega),hf]
theorem zwa{t:Tm}{p:List Int}(h:checkT t=0)(hf:zaZ t p=none):atR t p=(zT,10):=by
 unfold atR;rw[if_neg (by omega),hf]
theorem ztX{t u:Tm}{p:List Int}(h:(zvY t p u).2=0):checkT t=0∧checkT u=0∧(zaZ t p).isSome=true∧checkT (setT t p u)=0∧(zvY t p u).1=setT t p u:=by
 unfold zvY at h⊢
 split at h
 ·rename_i q;exact absurd h q
 ·rename_i q
  rw[if_neg q]
  split at h
  ·rename_i q;exact absurd h q
  ·rename_i q2
   rw[if_neg q2]
   split at h
   ·rename_i q3
    rw[if_pos q3]
    unfold zb6 at h⊢
    split at h
    ·rename_i q4;exact absurd h q4
    ·rename_i q4
     rw[if_neg q4]
     exact⟨Classical.not_not.1 q,Classical.not_not.1 q2,q3,Classical.not_not.1 q4,rfl⟩
   ·cases h
theorem zvu{t u:Tm}{p:List Int}(h1:checkT t=0)(h2:checkT u=0)(h3:(zaZ t p).isSome=true)(h4:checkT (setT t p u)=0):zvY t p u=(setT t p u,0):=by
 unfold zvY zb6
 rw[if_neg (by omega),if_neg (by omega),if_pos h3,if_neg (by omega)]
theorem ziP(q:List Int)(u:Tm): ∀ (p:List Int) (t a:Tm),zaZ t p=some a→setT t (p++q) u=setT t p (setT a q u)
 |[],t,a,h=>by obtain rfl:=Option.some.inj h;rfl
 |k::p,t,a,h=>by
  simp only[zaZ]at h
  split at h
  ·simp only[List.cons_append,setT,ziP q u p _ a h]
  ·cases h
theorem zjw(l:List Tm){i:Nat}(x:Tm)(h:i <l.length):(l.set i x).getD i zT=x:=by
 rw[List.getD_eq_getElem?_getD,List.getElem?_set_self (by omega)];rfl
theorem zvd(l:List Tm){i:Nat}(x:Tm)(h:i <l.length):(l.set i x).set i (l.getD i zT)=l:=by
 rw[List.set_set,List.getD_eq_getElem?_getD,List.getElem?_eq_getElem h,Option.getD_some,List.set_getElem_self]
theorem zva(u:Tm): ∀ (p:List Int) (t:Tm),(zaZ t p).isSome=true→zaZ (setT t p u) p=some u
 |[],t,_=>rfl
 |k::p,t,h=>by
  simp only[zaZ]at h
  split at h
  ·rename_i hk
   simp only[setT,zaZ,zhz,List.length_set]
   rw[if_pos hk,zjw _ _ (by omega)]
   exact zva u p _ h
  ·cases h
theorem zt6(u:Tm): ∀ (p:List Int) (t a:Tm),zaZ t p=some a→setT (setT t p u) p a=t
 |[],t,a,h=>by obtain rfl:=Option.some.inj h;rfl
 |k::p,t,a,h=>by
  simp only[zaZ]at h
  split at h
  ·rename_i hk
   simp only[setT,zhz,zqe,zrF]
   rw[zjw _ _ (by omega),zt6 u p _ a h,zvd _ _ (by omega)]
   cases t;rfl
  ·cases h
theorem zwc{t:Tm}{p q:List Int}(h:(atR t p).2=0):atR t (p++q)=atR (atR t p).1 q:=by
 obtain⟨hc,hf⟩:=zvU h
 have hc2:=zql hc hf
 generalize (atR t p).1=a at hf hc2
 unfold atR
 rw[if_neg (by omega),if_neg (by omega),zeP,hf]
 rfl
end Go.Proofs.YtokfbblhjpfjkaaGreat
namespace Go.Proofs.YtokfbblhjpfjkaaGreat
open Go.Aw Go.RowKit
attribute [local irreducible] WL AC WD WE MStep OkOp
def lk0(t:Tm):Option (Tm×Int):=match zcF t with
 | .none=>none
 | .inst f u=>some (instT (f.kids.getD 1 zT) (u.kids.drop 1) 0)
 | .done u=>some (u,0)
def wkT:Tm:=.mk 6 0 [.mk 1 0 [],.mk 9 0 [.mk 8 0 [.mk 2 0 [],.mk 2 1 [],.mk 2 2 []]]]
end Go.Proofs.YtokfbblhjpfjkaaGreat
