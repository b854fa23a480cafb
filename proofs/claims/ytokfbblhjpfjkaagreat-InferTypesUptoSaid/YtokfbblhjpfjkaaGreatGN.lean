/- Terms made normal: norm.Go.; Terms made normal: norm.Norm, Follow, Run, Normal.; -/
import Derived.Test.YtokfbblhjpfjkaaGreatGF
import Derived.Test.YtokfbblhjpfjkaaGreatGB
import Derived.Test.YtokfbblhjpfjkaaGreatGE
import Derived.Test.YtokfbblhjpfjkaaGreatGC
set_option linter.unusedSimpArgs false
set_option linter.unusedVariables false
namespace Go.Proofs.YtokfbblhjpfjkaaGreat
open Go.Aw Go.RowKit
def zAp:List (Nat×List Nat):=[(0,[]),(1,[0]),(2,[100006]),(3,[0,1]),(4,[0,1,2,3]),(5,[0,1,2,3,4])]
attribute [local irreducible] WL AC WD WE MStep OkOp
def rsP(l:List (List Int)):List (List AV):=l.map fun p=>[sI p]
abbrev sP(l:List (List Int)):AV:=.lst 1 (rsP l) false
theorem zwC(l:List (List Int)):(rsP l).length=l.length:=by rw[rsP,List.length_map]
theorem zyK(l:List (List Int))(p:List Int):rsP (l++[p])=rsP l++[[sI p]]:=by simp[rsP]
theorem zyt{l:List (List Int)}{i:Nat}{p:List Int}(h:l[i]? =some p):(rsP l)[i]? =some [sI p]:=by rw[rsP,List.getElem?_map,h];rfl
def zxE(lk:Tm→Option (Tm×Int))(t:Tm):Nat→Option (Tm×List (List Int))
 |0=>some (t,[])
 |j+1=>match zxE lk t j with
  |none=>none
  |some s=>match zc0 lk s.1 with
   |none=>none
   |some p=>if(makeR lk s.1 p).2=0 then some ((makeR lk s.1 p).1,s.2++[p])else none
def goN(lk:Tm→Option (Tm×Int)):Nat→Tm→List (List Int)→Tm×List (List Int)×Int
 |0,t,ps=>match zc0 lk t with
  |none=>(t,ps,0)
  |some _=>(zT,[],7)
 |n+1,t,ps=>match zc0 lk t with
  |none=>(t,ps,0)
  |some p=>if(makeR lk t p).2=0 then goN lk n (makeR lk t p).1 (ps++[p])else(zT,[],(makeR lk t p).2)
theorem zyF{lk:Tm→Option (Tm×Int)}{t:Tm}{n:Nat}: ∀ {j:Nat} {s:Tm×List (List Int)},j≤n→zxE lk t j=some s→goN lk n t []=goN lk (n-j) s.1 s.2∧s.2.length=j
 |0,s,_,h=>by obtain rfl:=Option.some.inj h;exact⟨rfl,rfl⟩
 |j+1,s,hj,h=>by
  simp only[zxE]at h
  split at h
  ·cases h
  ·rename_i s0 hs0
   split at h
   ·cases h
   ·rename_i p hp
    split at h
    ·rename_i hm
     obtain rfl:=Option.some.inj h
     obtain⟨h1,h2⟩:=zyF (n:=n) (by omega) hs0
     refine⟨?_,by simp[h2]⟩
     rw[h1,show n-j=(n-(j+1))+1 by omega,goN]
     simp only[hp,if_pos hm]
    ·cases h
def normM(fuel:Int):Nat:=(min fuel 4096).toNat
def goR(lk:Tm→Option (Tm×Int))(t:Tm)(fuel:Int):Tm×List (List Int)×Int:=if checkT t≠0 then(zT,[],checkT t)else goN lk (normM fuel) t []
abbrev goV(r:Tm×List (List Int)×Int):AV:=.tup [aT r.1,.agg [sP r.2.1],.int .i64 r.2.2]
theorem zyB{lk:Tm→Option (Tm×Int)}{t:Tm}(ht:checkT t=0): ∀ {j:Nat} {s:Tm×List (List Int)},zxE lk t j=some s→checkT s.1=0
 |0,s,h=>by obtain rfl:=Option.some.inj h;exact ht
 |j+1,s,h=>by
  simp only[zxE]at h
  split at h
  ·cases h
  ·rename_i s0 hs0
   split at h
   ·cases h
   ·rename_i p hp
    split at h
    ·rename_i hm
     obtain rfl:=Option.some.inj h
     show checkT (makeR lk s0.1 p).1=0
     unfold makeR at hm⊢
     split at hm
     ·cases hm
     ·rename_i u hu
      split at hm
      ·cases hm
      ·rename_i r hr
       simp only[hu,hr]at*
       split at hm
       ·rename_i q;exact absurd hm q
       ·rename_i q
        rw[if_neg q]
        unfold zb6 at hm⊢
        split at hm
        ·rename_i q2;exact absurd hm q2
        ·rename_i q2
         rw[if_neg q2]
         exact Classical.not_not.1 q2
    ·cases h
theorem zxu(e:Int):FC Tryz.prog 79 [.int .i64 e] (goV (zT,[],e)):=by
 refine zo hty Tryz.func79 rfl rfl rfl fun w0=>?_
 repeat'(first|refine WL_p hty rfl rfl ?_|refine zh ?_|refine zi ?_|refine za ?_|refine zg ?_)
 refine zH rfl rfl (.tup (.cons (.agg ?_) (.cons (.agg ?_) (.cons (.refl _) .nil))))
 ·repeat'(first|exact Wks.nil|refine Wks.cons (Wk.refl _) ?_|refine Wks.cons (Wk.full _ _ _) ?_)
 ·repeat'(first|exact Wks.nil|refine Wks.cons (Wk.full _ _ _) ?_)
set_option maxHeartbeats 8000000 in
theorem zyP{es:Nat}{rows:List (List AV)}{full:Bool}{lk:Tm→Option (Tm×Int)}(hlk:LK es rows full 0 lk)(t:Tm)(fuel:Int)(ht:t.size≤1048576)(hf:0≤fuel):
 FC Tryz.prog 48 [.lst es rows full,aT t,.int .i64 fuel] (goV (goR lk t fuel)):=by
 have hc:=zb2 t ht
 by_cases h1:checkT t=0
 ·obtain⟨c1,_,c3⟩:=zcH h1
  rw[h1]at hc
  have hg:goR lk t fuel=goN lk (normM fuel) t []:=by unfold goR;rw[if_neg (by omega)]
  have hn:normM fuel≤4096:=by unfold normM;omega
  rw[hg]
  refine zo hty Tryz.func48 rfl rfl rfl fun w0=>?_
  repeat'(first|exact absurd rfl ‹_›|refine zv 0 rfl hc rfl rfl rfl ?_|refine WL_p hty rfl rfl ?_|refine zh ?_|refine zi ?_|refine za ?_|refine zf ?_|refine zxg ?_|refine zbZ rfl ?_|refine zj rfl rfl rfl rfl (fun _=>?_) (fun _=>?_))
  refine zab (zcc 111 rfl) ?_
  refine zW (normM fuel) (fun j=>(zxE lk t j).isSome=true) (fun j=>⟨envOf [(0,.lst es rows full),(2,.int .i64 fuel),(4,.ptr 4 0),(6,.ptr 6 0),(7,.ptr 7 0),(9,.fn (.func 79) [] []),(11,.ptr 11 0)],
   bkOf [(4,.box (cT ((zxE lk t j).getD (zT,[])).1)),(6,.box [.int .i64 0,.int .i64 0,.lst 3 [] true]),(7,.box [.lst 1 [] true]),(11,.box [grV 111 1 (rsP ((zxE lk t j).getD (zT,[])).2)]),(111,grB 50 1 (rsP ((zxE lk t j).getD (zT,[])).2))]⟩)
   (zfY ⟨zz rfl rfl,zz rfl rfl,zz rfl rfl,zz rfl rfl,zz rfl rfl,zz rfl rfl,zz rfl rfl,trivial⟩ ⟨zw rfl rfl,zw rfl rfl,zw rfl rfl,?_,zw rfl rfl,trivial⟩) rfl ?_
  ·exact⟨⟨_,rfl,.refl _⟩,by simp only[keepB,List.all_cons,List.all_nil];rw[zg0] <;>rfl⟩
  intro j hj hI
  obtain⟨s,hs⟩:=Option.isSome_iff_exists.1 hI
  obtain⟨hrg,hrl⟩:=zyF hj hs
  have hck:=zyB h1 hs
  obtain⟨d1,_,d3⟩:=zcH hck
  have hpl:=zwC s.2
  have hfd:=zq0 hlk 6000 (by omega) s.1 d1 d3
  rw[hs,hrg,Option.getD_some]
  have hrn:zxE lk t (j+1)=match zc0 lk s.1 with
   |none=>none
   |some p=>if(makeR lk s.1 p).2=0 then some ((makeR lk s.1 p).1,s.2++[p])else none:=by rw[zxE,hs]
  cases hp:zc0 lk s.1 with
  |none=>
   rw[hp]at hfd
   have hgo:goN lk (normM fuel-j) s.1 s.2=(s.1,s.2,0):=by cases normM fuel-j <;>simp only[goN,hp]
   have htw:=zcV s.1 (by omega)
   rw[hgo]
   rcases hrp:rsP s.2 with _|⟨r0,rp⟩
   all_goals
    repeat'(first|refine zv 0 rfl hfd rfl rfl rfl ?_|(refine zhH (id:=8) ?_;refine zab (zfY (l:=[(4,_),(6,_),(7,_),(11,_)]) (bl:=[(4,_),(6,_),(7,_),(11,_),(111,_)]) ⟨zz rfl rfl,zz rfl rfl,zz rfl rfl,zz rfl rfl,trivial⟩ ⟨zw rfl rfl,zw rfl rfl,zw rfl rfl,zw rfl rfl,zw rfl rfl,trivial⟩) ?_;refine zD (id:=8) zAp rfl (by kernel_rfl) ?_)|refine zad 0 rfl htw rfl rfl rfl ?_|refine zu (.inl ⟨rfl,zI hty rfl rfl⟩) ?_|refine zS ⟨by kernel_rfl,?_⟩|refine WL_p hty rfl rfl ?_|refine zh ?_|refine zi ?_|refine za ?_|refine zf ?_|refine zd rfl ?_|refine zg ?_)
   ·refine zH rfl rfl (.tup (.cons (.refl _) (.cons (.agg (.cons ?_ .nil)) (.cons (.refl _) .nil))))
    show Wk _ (.lst 1 (rsP s.2) false)
    rw[hrp]
    exact .nilF _ _ _
   ·refine zbm (zaF 111 rfl) ?_
    refine zH rfl rfl (.tup (.cons (.refl _) (.cons (.agg (.cons ?_ .nil)) (.cons (.refl _) .nil))))
    show Wk _ (.lst 1 (rsP s.2) false)
    rw[hrp]
    exact .refl _
  |some p=>
   rw[hp]at hfd hrn
   have hplen:=zpk lk 6000 s.1 p (by omega) hp
   have hmk:=zoB hlk s.1 p d1 d3 (by omega)
   have hg0:normM fuel-j=0→goN lk (normM fuel-j) s.1 s.2=(zT,[],7):=fun e=>by rw[e,goN,hp]
   have hg1: ∀ k,normM fuel-j=k+1→(makeR lk s.1 p).2≠0→goN lk (normM fuel-j) s.1 s.2=(zT,[],(makeR lk s.1 p).2):=fun k e e2=>by rw[e,goN,hp];simp only[if_neg e2]
   have hrn2:(makeR lk s.1 p).2=0→zxE lk t (j+1)=some ((makeR lk s.1 p).1,s.2++[p]):=fun e=>by rw[hrn];simp only[if_pos e]
   have hsn:=zyK s.2 p
   clear hrn
   generalize makeR lk s.1 p=m at hmk hg1 hrn2
   have hnm:(normM fuel:Int)=min fuel 4096:=by unfold normM;omega
   rcases hrp:rsP s.2 with _|⟨r0,rp⟩
   all_goals
    repeat'(first|refine zv 0 rfl hfd rfl rfl rfl ?_|refine zv 0 rfl hmk rfl rfl rfl ?_|refine WL_m rfl (znM rfl rfl rfl) ?_|refine WL_m rfl (zct 0 rfl rfl rfl (zxu _) rfl rfl rfl) ?_|refine WL_m rfl (zck (id0:=111) (rows:=[]) hty 211 rfl rfl rfl rfl rfl rfl rfl (by simp only[List.length_cons,List.length_nil];omega) rfl rfl rfl) ?_|refine WL_m rfl (zck (id0:=111) (rows:=r0::rp) hty 211 rfl rfl rfl rfl rfl rfl rfl (by rw[hrp]at hpl;simp only[List.length_cons,List.length_nil]at*;omega) rfl rfl rfl) ?_|refine WL_p hty rfl rfl ?_|refine zh ?_|refine zi ?_|refine za ?_|refine zf ?_|refine zxg ?_|refine zd rfl ?_|refine zbZ rfl ?_|refine zg ?_|refine zj rfl rfl rfl rfl (fun _=>?_) (fun _=>?_))
   all_goals(have hrj:=hrl;rw[←hpl,hrp]at hrj)
   ·rename_i hq
    rw[hg0 (by split at hq <;>omega)]
    exact zH rfl rfl (.refl _)
   ·rename_i hq he
    rw[hg1 (normM fuel-j-1) (by split at hq <;>omega) he]
    exact zH rfl rfl (.refl _)
   ·rename_i hq he
    have hr2:=hrn2 (Classical.not_not.1 he)
    have hrr:([]:List (List AV))++[[sI p]]=rsP (s.2++[p]):=by rw[hsn,hrp]
    rw[hr2,Option.getD_some]
    refine⟨by split at hq <;>omega,rfl,(zbf [(111,211)] rfl ⟨⟨_,rfl,.inl ⟨.refl _,rfl⟩⟩,⟨_,rfl,.inl ⟨.refl _,rfl⟩⟩,⟨_,rfl,.inl ⟨.refl _,rfl⟩⟩,⟨_,rfl,.inl ⟨.refl _,rfl⟩⟩,⟨_,rfl,.inl ⟨.refl _,rfl⟩⟩,⟨_,rfl,.inl ⟨.refl _,rfl⟩⟩,⟨_,rfl,.inl ⟨.refl _,rfl⟩⟩,trivial⟩ ⟨⟨⟨_,rfl,.refl _⟩,rfl⟩,⟨⟨_,rfl,.refl _⟩,rfl⟩,⟨⟨_,rfl,.refl _⟩,rfl⟩,?_,⟨⟨_,rfl,zdt ?_⟩,zbu⟩,trivial⟩)⟩
    ·exact⟨⟨_,rfl,.box (.cons (zqf rfl hrr) .nil)⟩,by simp only[keepB,List.all_cons,List.all_nil];rw[zg0] <;>rfl⟩
    ·exact hrr
   ·rename_i hq
    rw[hg0 (by split at hq <;>omega)]
    exact zH rfl rfl (.refl _)
   ·rename_i hq he
    rw[hg1 (normM fuel-j-1) (by split at hq <;>omega) he]
    exact zH rfl rfl (.refl _)
   ·rename_i hq he
    have hr2:=hrn2 (Classical.not_not.1 he)
    have hrr:r0::rp++[[sI p]]=rsP (s.2++[p]):=by rw[hsn,hrp]
    rw[hr2,Option.getD_some]
    refine⟨by split at hq <;>omega,rfl,(zbf [(111,211)] rfl ⟨⟨_,rfl,.inl ⟨.refl _,rfl⟩⟩,⟨_,rfl,.inl ⟨.refl _,rfl⟩⟩,⟨_,rfl,.inl ⟨.refl _,rfl⟩⟩,⟨_,rfl,.inl ⟨.refl _,rfl⟩⟩,⟨_,rfl,.inl ⟨.refl _,rfl⟩⟩,⟨_,rfl,.inl ⟨.refl _,rfl⟩⟩,⟨_,rfl,.inl ⟨.refl _,rfl⟩⟩,trivial⟩ ⟨⟨⟨_,rfl,.refl _⟩,rfl⟩,⟨⟨_,rfl,.refl _⟩,rfl⟩,⟨⟨_,rfl,.refl _⟩,rfl⟩,?_,⟨⟨_,rfl,zdt ?_⟩,zbu⟩,trivial⟩)⟩
    ·exact⟨⟨_,rfl,.box (.cons (zqf rfl hrr) .nil)⟩,by simp only[keepB,List.all_cons,List.all_nil];rw[zg0] <;>rfl⟩
    ·exact hrr
 ·have hg:goR lk t fuel=(zT,[],checkT t):=by unfold goR;rw[if_pos h1]
  rw[hg]
  refine zo hty Tryz.func48 rfl rfl rfl fun w0=>?_
  repeat'(first|exact absurd h1 ‹_›|refine zv 0 rfl hc rfl rfl rfl ?_|refine WL_m rfl (zct 0 rfl rfl rfl (zxu _) rfl rfl rfl) ?_|refine WL_p hty rfl rfl ?_|refine zh ?_|refine zi ?_|refine za ?_|refine zd rfl ?_|refine zg ?_|refine zj rfl rfl rfl rfl (fun _=>?_) (fun _=>?_))
  exact zH rfl rfl (.refl _)
end Go.Proofs.YtokfbblhjpfjkaaGreat
namespace Go.Proofs.YtokfbblhjpfjkaaGreat
open Go.Aw Go.RowKit
attribute [local irreducible] WL AC WD WE MStep OkOp
def normR(chk:Int)(lk:Tm→Option (Tm×Int))(t:Tm)(fuel:Int):Tm×List (List Int)×Int:=
 if chk≠0 then(zT,[],chk)else if checkT t≠0 then(zT,[],checkT t)else if fuel <0∨65536 <fuel then(zT,[],1)else goR lk t fuel
theorem zxI(e:Int)(f g:Bool):Wks [.agg [.int .i64 0,.int .i64 0,.lst 3 [] f],.agg [.lst 1 [] g],.int .i64 e] [aT zT,.agg [sP []],.int .i64 e]:=by
 refine .cons (.agg ?_) (.cons (.agg ?_) (.cons (.refl _) .nil))
 ·cases f
  ·repeat'(first|exact Wks.nil|refine Wks.cons (Wk.refl _) ?_)
  ·repeat'(first|exact Wks.nil|refine Wks.cons (Wk.refl _) ?_|refine Wks.cons (Wk.full _ _ _) ?_)
 ·cases g
  ·exact .cons (.refl _) .nil
  ·repeat'(first|exact Wks.nil|refine Wks.cons (Wk.full _ _ _) ?_)
set_option maxHeartbeats 4000000 in
theorem zxV{es:Nat}{rows:List (List AV)}{full:Bool}{chk:Int}{lk:Tm→Option (Tm×Int)}(hlk:LK es rows full chk lk)(t:Tm)(fuel:Int)(ht:t.size≤1048576):
 FC Tryz.prog 19 [.lst es rows full,aT t,.int .i64 fuel] (goV (normR chk lk t fuel)):=by
 have hck:=hlk.ck
 have hc:=zb2 t ht
 by_cases h0:chk=0
 ·subst h0
  by_cases h1:checkT t=0
  ·by_cases h2:fuel <0∨65536 <fuel
   ·rw[show normR 0 lk t fuel=(zT,[],1) by unfold normR;rw[if_neg (by omega),if_neg (by omega),if_pos h2]]
    rw[h1]at hc
    refine zo hty Tryz.func19 rfl rfl rfl fun w0=>?_
    repeat'(first|exact absurd rfl ‹_›|refine zv 0 rfl hck rfl rfl rfl ?_|refine zv 0 rfl hc rfl rfl rfl ?_|(refine zhH (id:=8) ?_;exfalso;omega)|refine WL_p hty rfl rfl ?_|refine zh ?_|refine zi ?_|refine za ?_|refine zf ?_|refine zxg ?_|refine zd rfl ?_|refine zbZ rfl ?_|refine zg ?_|refine zx rfl rfl ?_|refine zot rfl rfl rfl ?_|refine zj rfl rfl rfl rfl (fun _=>?_) (fun _=>?_))
    all_goals exact zH rfl rfl (.tup (zxI _ _ _))
   ·have hg:=zyP hlk t fuel ht (by omega)
    rw[show normR 0 lk t fuel=goR lk t fuel by unfold normR;rw[if_neg (by omega),if_neg (by omega),if_neg h2]]
    rw[h1]at hc
    generalize goR lk t fuel=r at hg⊢
    refine zo hty Tryz.func19 rfl rfl rfl fun w0=>?_
    repeat'(first|exact absurd rfl ‹_›|refine zv 0 rfl hck rfl rfl rfl ?_|refine zv 0 rfl hc rfl rfl rfl ?_|(refine zhH (id:=7) ?_;exfalso;omega)|refine zv 0 rfl hg rfl rfl rfl ?_|refine WL_p hty rfl rfl ?_|refine zh ?_|refine zi ?_|refine za ?_|refine zf ?_|refine zxg ?_|refine zd rfl ?_|refine zbZ rfl ?_|refine zg ?_|refine zx rfl rfl ?_|refine zot rfl rfl rfl ?_|refine zj rfl rfl rfl rfl (fun _=>?_) (fun _=>?_))
    exact zH rfl rfl (.refl _)
  ·rw[show normR 0 lk t fuel=(zT,[],checkT t) by unfold normR;rw[if_neg (by omega),if_pos h1]]
   refine zo hty Tryz.func19 rfl rfl rfl fun w0=>?_
   repeat'(first|exact absurd rfl ‹_›|exact absurd h1 ‹_›|refine zv 0 rfl hck rfl rfl rfl ?_|refine zv 0 rfl hc rfl rfl rfl ?_|refine WL_p hty rfl rfl ?_|refine zh ?_|refine zi ?_|refine za ?_|refine zf ?_|refine zd rfl ?_|refine zg ?_|refine zj rfl rfl rfl rfl (fun _=>?_) (fun _=>?_))
   exact zH rfl rfl (.tup (zxI _ _ _))
 ·rw[show normR chk lk t fuel=(zT,[],chk) by unfold normR;rw[if_pos h0]]
  refine zo hty Tryz.func19 rfl rfl rfl fun w0=>?_
  repeat'(first|exact absurd (by assumption) h0|exact absurd h0 ‹_›|refine zv 0 rfl hck rfl rfl rfl ?_|refine WL_p hty rfl rfl ?_|refine zh ?_|refine zi ?_|refine za ?_|refine zf ?_|refine zxg ?_|refine zd rfl ?_|refine zbZ rfl ?_|refine zg ?_|refine zj rfl rfl rfl rfl (fun _=>?_) (fun _=>?_))
  exact zH rfl rfl (.tup (zxI _ _ _))
def zxC(lk:Tm→Option (Tm×Int)):Tm→List (List Int)→Option Tm
 |t,[]=>some t
 |t,p::l=>if(makeR lk t p).2=0 then zxC lk (makeR lk t p).1 l else none
def zv0(lk:Tm→Option (Tm×Int)):Tm→List (List Int)→Tm×Int
 |t,[]=>(t,0)
 |t,p::l=>if(makeR lk t p).2=0 then zv0 lk (makeR lk t p).1 l else(zT,(makeR lk t p).2)
theorem zxp(lk:Tm→Option (Tm×Int)): ∀ (a b:List (List Int)) (t:Tm),zxC lk t (a++b)=(zxC lk t a).bind fun u=>zxC lk u b
 |[],b,t=>rfl
 |p::a,b,t=>by
  simp only[List.cons_append,zxC]
  split
  ·exact zxp lk a b _
  ·rfl
theorem zwH(lk:Tm→Option (Tm×Int)): ∀ (a b:List (List Int)) (t u:Tm),zxC lk t a=some u→zv0 lk t (a++b)=zv0 lk u b
 |[],b,t,u,h=>by obtain rfl:=Option.some.inj h;rfl
 |p::a,b,t,u,h=>by
  simp only[zxC]at h
  split at h
  ·rename_i hm
   simp only[List.cons_append,zv0,if_pos hm]
   exact zwH lk a b _ u h
  ·cases h
theorem zxq{lk:Tm→Option (Tm×Int)}{t:Tm}{p:List Int}(hm:(makeR lk t p).2=0):checkT (makeR lk t p).1=0:=by
 unfold makeR at hm⊢
 split at hm
 ·cases hm
 ·rename_i u hu
  split at hm
  ·cases hm
  ·rename_i r hr
   simp only[hu,hr]at*
   split at hm
   ·rename_i q;exact absurd hm q
   ·rename_i q
    rw[if_neg q]
    unfold zb6 at hm⊢
    split at hm
    ·rename_i q2;exact absurd hm q2
    ·rename_i q2
     rw[if_neg q2]
     exact Classical.not_not.1 q2
def zwf(lk:Tm→Option (Tm×Int))(t:Tm)(ps:List (List Int)):Tm×Int:=if checkT t≠0 then(zT,checkT t)else if 4096 <ps.length then(zT,2)else zv0 lk t ps
def zxN(chk:Int)(lk:Tm→Option (Tm×Int))(t:Tm)(ps:List (List Int)):Tm×Int:=if chk≠0 then(zT,chk)else zwf lk t ps
def zxF(chk:Int)(lk:Tm→Option (Tm×Int))(t:Tm):Bool:=decide (chk=0)&&(decide (checkT t=0)&&(zc0 lk t).isNone)
end Go.Proofs.YtokfbblhjpfjkaaGreat
namespace Go.Proofs.YtokfbblhjpfjkaaGreat
open Go.Aw Go.RowKit
def zw9(lk:Tm→Option (Tm×Int)):Tm→List (List Int)→Tm→Prop
 |t,[],a=>t=a∧zc0 lk a=none
 |t,x::p,a=>zc0 lk t=some x∧(makeR lk t x).2=0∧zw9 lk (makeR lk t x).1 p a
theorem zxU{lk:Tm→Option (Tm×Int)}: ∀ {n:Nat} {t a:Tm} {ps qs:List (List Int)},goN lk n t ps=(a,qs,0)→ ∃ p,qs=ps++p∧p.length≤n∧zw9 lk t p a
 |0,t,a,ps,qs,h=>by
  simp only[goN]at h
  split at h
  ·rename_i hp
   obtain⟨rfl,rfl,_⟩:=Prod.mk.injEq .. ▸h
   exact⟨[],by simp,Nat.le_refl _,rfl,hp⟩
  ·cases h
 |n+1,t,a,ps,qs,h=>by
  simp only[goN]at h
  split at h
  ·rename_i hp
   obtain⟨rfl,rfl,_⟩:=Prod.mk.injEq .. ▸h
   exact⟨[],by simp,by simp,rfl,hp⟩
  ·rename_i x hx
   split at h
   ·rename_i hm
    obtain⟨p,h1,h2,h3⟩:=zxU h
    exact⟨x::p,by rw[h1,List.append_assoc];rfl,by simp only[List.length_cons];omega,hx,hm,h3⟩
   ·rename_i hm
    have:(makeR lk t x).2=0:=congrArg (fun r=>r.2.2) h
    exact absurd this hm
theorem zyI{lk:Tm→Option (Tm×Int)}: ∀ {p:List (List Int)} {t a:Tm},zw9 lk t p a→ ∀ (n:Nat) (ps:List (List Int)),(p.length≤n→goN lk n t ps=(a,ps++p,0))∧(n <p.length→goN lk n t ps=(zT,[],7))
 |[],t,a,h,n,ps=>by
  obtain⟨rfl,hp⟩:=h
  refine⟨fun _=>?_,fun q=>by simp at q⟩
  rw[List.append_nil]
  cases n <;>simp only[goN,hp]
 |x::p,t,a,h,n,ps=>by
  obtain⟨h1,h2,h3⟩:=h
  cases n with
  |zero=>
   refine⟨fun q=>by simp at q,fun _=>?_⟩
   simp only[goN,h1]
  |succ n=>
   obtain⟨g1,g2⟩:=zyI h3 n (ps++[x])
   refine⟨fun q=>?_,fun q=>?_⟩
   ·simp only[goN,h1,if_pos h2]
    rw[g1 (by simp only[List.length_cons]at q;omega),List.append_assoc];rfl
   ·simp only[goN,h1,if_pos h2]
    exact g2 (by simp only[List.length_cons]at q;omega)
theorem zyf{lk:Tm→Option (Tm×Int)}: ∀ {p:List (List Int)} {t a:Tm},zw9 lk t p a→checkT t=0→checkT a=0∧ ∀ x,x∈p→x.length≤6000
 |[],t,a,h,hc=>⟨h.1▸hc,fun x q=>by simp at q⟩
 |x::p,t,a,h,hc=>by
  obtain⟨g1,g2⟩:=zyf h.2.2 (zxq h.2.1)
  refine⟨g1,fun y hy=>?_⟩
  rcases List.mem_cons.1 hy with rfl|hy
  ·exact Nat.le_of_lt (zpk lk 6000 t _ (zcH hc).1 h.1)
  ·exact g2 y hy
theorem zyG{lk:Tm→Option (Tm×Int)}{t:Tm}{fuel:Int}(hc:checkT t=0)(h0:0≤fuel)(h1:fuel≤4096):normR 0 lk t fuel=goN lk fuel.toNat t []:=by
 unfold normR goR normM
 rw[if_neg (by omega),if_neg (by omega),if_neg (by omega),if_neg (by omega),show min fuel 4096=fuel by omega]
theorem zzb{chk:Int}{lk:Tm→Option (Tm×Int)}{t:Tm}{fuel:Int}(h:(normR chk lk t fuel).2.2=0)(h0:0≤fuel)(h1:fuel≤4096):
 chk=0∧checkT t=0∧zw9 lk t (normR chk lk t fuel).2.1 (normR chk lk t fuel).1∧((normR chk lk t fuel).2.1.length:Int)≤fuel:=by
 have hc:chk=0:=by
  unfold normR at h
  split at h
  ·rename_i q;exact absurd h q
  ·rename_i q;exact Classical.not_not.1 q
 subst hc
 have hc:checkT t=0:=by
  unfold normR at h
  split at h
  ·rename_i q;exact absurd rfl q
  ·split at h
   ·rename_i q;exact absurd h q
   ·rename_i q;exact Classical.not_not.1 q
 rw[zyG hc h0 h1]at h⊢
 obtain⟨p,g1,g2,g3⟩:=zxU (n:=fuel.toNat) (t:=t) (ps:=[]) (a:=(goN lk fuel.toNat t []).1) (qs:=(goN lk fuel.toNat t []).2.1) (by rw[←h])
 rw[List.nil_append]at g1
 rw[g1]
 exact⟨rfl,hc,g3,by omega⟩
end Go.Proofs.YtokfbblhjpfjkaaGreat
namespace Go.Proofs.YtokfbblhjpfjkaaGreat
open Go.Aw Go.RowKit
attribute [local irreducible] WL AC WD WE MStep OkOp
def zHX:Tm:=.mk 6 0 [.mk 5 0 [.mk 2 1 [],.mk 1 0 []],.mk 2 0 []]
end Go.Proofs.YtokfbblhjpfjkaaGreat
namespace Go.Proofs.YtokfbblhjpfjkaaGreat
open Go.Aw Go.RowKit
attribute [local irreducible] WL AC WD WE MStep OkOp
theorem zy2:zvN Tryz.prog 3=some .i64:=by kernel_rfl
theorem zy0:zvN Tryz.prog 42=some .u64:=by kernel_rfl
theorem zyX:(zvN Tryz.prog 3).isSome=true:=by rw[zy2];rfl
theorem zyZ:(zvN Tryz.prog 42).isSome=true:=by rw[zy0];rfl
def zyH(n:Int)(m:Nat):Int:=IntKind.i64.wrap ((IntKind.u64.wrap n).tmod (IntKind.u64.wrap (m:Nat)))
theorem zyq(n:Int){m:Nat}(h0:0 <m)(h1:m≤4194304):IntKind.u64.wrap ((m:Nat):Int)≠0∧ ∃ k:Nat,k <m∧zyH n m=(k:Int):=by
 have hw:IntKind.u64.wrap ((m:Nat):Int)=(m:Int):=by simp[IntKind.wrap,IntKind.signed,IntKind.bits];omega
 have hn:0≤IntKind.u64.wrap n:=by simp only[IntKind.wrap,IntKind.signed,IntKind.bits];simp;omega
 refine⟨by omega,?_⟩
 unfold zyH
 rw[hw]
 have h2:0≤(IntKind.u64.wrap n).tmod m:=Int.tmod_nonneg _ hn
 have h3:(IntKind.u64.wrap n).tmod m <m:=Int.tmod_lt_of_pos _ (by omega)
 refine⟨((IntKind.u64.wrap n).tmod m).toNat,by omega,?_⟩
 rw[zy (by omega) (by omega)];omega
end Go.Proofs.YtokfbblhjpfjkaaGreat
namespace Go.Proofs.YtokfbblhjpfjkaaGreat
open Go.Aw Go.RowKit
def zBH:List (Nat×List Nat):=[(0,[]),(1,[]),(2,[0,1]),(3,[0,1,2]),(4,[]),(5,[]),(6,[4,5]),(7,[4,5,6]),(8,[0,1,2,3,4,5,6,7])]
def zBI:List (Nat×List Nat):=[(0,[]),(1,[0]),(2,[]),(3,[0,1,2]),(4,[0,1,2,3]),(5,[]),(6,[5]),(7,[]),(8,[5,6,7]),(9,[5,6,7,8]),(10,[0,1,2,3,4,5,6,7,8,9]),(11,[0,1,2,3,4,5,6,7,8,9,10])]
def zBD:List (Nat×List Nat):=[(0,[]),(1,[0]),(2,[0,1]),(3,[0,1,2]),(4,[0,1,2,3]),(5,[0,1,2,3,4]),(6,[0,1,2,3,4,5]),(7,[0,1,2,3,4,5,6]),(8,[0,1,2,3,4,5,6,7]),(9,[0,1,2,3,4,5,6,7,8]),(10,[0,1,2,3,4,5,6,7,8,9]),(11,[0,1,2,3,4,5,6,7,8,9,10]),(12,[0,1,2,3,4,5,6,7,8,9,10,11]),(13,[0,1,2,3,4,5,6,7,8,9,10,11,12]),(14,[0,1,2,3,4,5,6,7,8,9,10,11,12,13]),(15,[0,1,2,3,4,5,6,7,8,9,10,11,12,13,14]),(16,[0,1,2,3,4,5,6,7,8,9,10,11,12,13,14,15]),(17,[0,1,2,3,4,5,6,7,8,9,10,11,12,13,14,15,16]),(18,[0,1,2,3,4,5,6,7,8,9,10,11,12,13,14,15,16]),(19,[0,1,2,3,4,5,6,7,8,9,10,11,12,13,14,15,16,18]),(20,[0,1,2,3,4,5,6,7,8,9,10,11,12,13,14,15,16,17,18,19]),(21,[0,1,2,3,4,5,6,7,8,9,10,11,12,13,14,15,16,17,18,19,20]),(22,[0,1,2,3,4,5,6,7,8,9,10,11,12,13,14,15,16,17,18,19,20,21]),(23,[0,1,2,3,4,5,6,7,8,9,10,11,12,13,14,15,16,17,18,19,20,21,22]),(24,[0,1,2,3,4,5,6,7,8,9,10,11,12,13,14,15,16,17,18,19,20,21,22]),(25,[0,1,2,3,4,5,6,7,8,9,10,11,12,13,14,15,16,17,18,19,20,21,22,24]),(26,[0,1,2,3,4,5,6,7,8,9,10,11,12,13,14,15,16,17,18,19,20,21,22,23,24,25]),(27,[0,1,2,3,4,5,6,7,8,9,10,11,12,13,14,15,16,17,18,19,20,21,22,23,24,25,26]),(28,[0,1,2,3,4,5,6,7,8,9,10,11,12,13,14,15,16,17,18,19,20,21,22,23,24,25,26,27]),(29,[0,1,2,3,4,5,6,7,8,9,10,11,12,13,14,15,16,17,18,19,20,21,22,23,24,25,26,27,28]),(30,[0,1,2,3,4,5,6,7,8,9,10,11,12,13,14,15,16,17,18,19,20,21,22,23,24,25,26,27,28,29]),(31,[0,1,2,3,4,5,6,7,8,9,10,11,12,13,14,15,16,17,18,19,20,21,22,23,24,25,26,27,28,29,30]),(32,[0,1,2,3,4,5,6,7,8,9,10,11,12,13,14,15,16,17,18,19,20,21,22,23,24,25,26,27,28,29,30,31]),(33,[0,1,2,3,4,5,6,7,8,9,10,11,12,13,14,15,16,17,18,19,20,21,22,23,24,25,26,27,28,29,30,31,32]),(34,[0,1,2,3,4,5,6,7,8,9,10,11,12,13,14,15,16,17,18,19,20,21,22,23,24,25,26,27,28,29,30,31,32,33]),(35,[0,1,2,3,4,5,6,7,8,9,10,11,12,13,14,15,16,17,18,19,20,21,22,23,24,25,26,27,28,29,30,31,32,33,34]),(36,[0,1,2,3,4,5,6,7,8,9,10,11,12,13,14,15,16,17,18,19,20,21,22,23,24,25,26,27,28,29,30,31,32,33,34,35]),(37,[0,1,2,3,4,5,6,7,8,9,10,11,12,13,14,15,16,17,18,19,20,21,22,23,24,25,26,27,28,29,30,31,32,33,34,35,36]),(38,[0,1,2,3,4,5,6,7,8,9,10,11,12,13,14,15,16,17,18,19,20,21,22,23,24,25,26,27,28,29,30,31,32,33,34,35,36,37])]
attribute [local irreducible] WL AC WD WE MStep OkOp
attribute [local irreducible] zfd zvN
theorem zyj(l:List Int)(h:l.length≤1048576):FC Tryz.prog 31 [sI l,sI l] (.bool true):=by
 refine zo hty Tryz.func31 rfl rfl rfl fun w0=>?_
 repeat'(first|exact absurd rfl ‹_›|refine WL_p hty rfl rfl ?_|refine zh ?_|refine zi ?_|refine za ?_|refine zf ?_|refine zxg ?_|refine zbZ rfl ?_|refine zj rfl rfl rfl rfl (fun _=>?_) (fun _=>?_))
 refine zW l.length (fun _=>True) (fun i=>⟨envOf [(0,sI l),(1,sI l),(5,.int .i64 (i:Nat))],bkOf []⟩) (zfY ⟨zz rfl rfl,zz rfl rfl,zz rfl rfl,trivial⟩ trivial) trivial ?_
 intro i hi _
 repeat'(first|refine WL_p hty rfl rfl ?_|refine zi ?_|refine za ?_)
 refine zj rfl rfl rfl rfl (fun hc=>?_) (fun hc=>?_)
 ·have hlt:i <l.length:=by rw[zap]at hc;omega
  obtain⟨k,hk,_⟩:=zA hlt
  have rk:=zd6 hk
  repeat'(first|exact absurd rfl ‹_›|refine zD (id:=6) zBH rfl (by kernel_rfl) ?_|refine zu (.inl ⟨rfl,zI hty rfl rfl⟩) ?_|refine zu (.inl ⟨rfl,zm hty rfl rfl rfl (by assumption) rfl⟩) ?_|refine zS ⟨by kernel_rfl,?_⟩|refine WL_p hty rfl rfl ?_|refine zh ?_|refine zi ?_|refine za ?_|refine zf ?_|refine zxg ?_|refine zd rfl ?_|refine zbZ rfl ?_|refine zaC rfl rfl rfl rfl (fun _=>?_) (fun _=>?_))
  refine⟨hlt,trivial,(zfY ⟨zz rfl rfl,zz rfl rfl,⟨_,rfl,zO ?_ rfl⟩,trivial⟩ trivial)⟩
  exact congrArg (AV.int .i64) ((zy (by omega) (by omega)).trans (by omega))
 ·repeat'(first|refine WL_p hty rfl rfl ?_|refine zh ?_|refine zi ?_|refine za ?_|refine zbZ rfl ?_|refine zl ?_|refine zg ?_|refine zb rfl ?_)
  rfl
theorem zyY(l:List (List Int))(h:l.length≤1048576)(hp: ∀ p,p∈l→p.length≤1048576):FC Tryz.prog 26 [.agg [sP l],.agg [sP l]] (.bool true):=by
 refine zo hty Tryz.func26 rfl rfl rfl fun w0=>?_
 repeat'(first|exact absurd rfl ‹_›|refine WL_p hty rfl rfl ?_|refine zh ?_|refine zi ?_|refine za ?_|refine zf ?_|refine zxg ?_|refine zbZ rfl ?_|refine zj rfl rfl rfl rfl (fun _=>?_) (fun _=>?_))
 refine zW l.length (fun _=>True) (fun i=>⟨envOf [(2,.ptr 2 0),(3,.ptr 3 0),(5,.int .i64 (i:Nat))],bkOf [(2,.box [sP l]),(3,.box [sP l])]⟩) (zfY ⟨zz rfl rfl,zz rfl rfl,zz rfl rfl,trivial⟩ ⟨zw rfl rfl,zw rfl rfl,trivial⟩) trivial ?_
 intro i hi _
 repeat'(first|refine WL_p hty rfl rfl ?_|refine zi ?_|refine za ?_)
 refine zj rfl rfl rfl rfl (fun hc=>?_) (fun hc=>?_)
 ·have hlt:i <l.length:=by rw[zwC]at hc;omega
  obtain⟨p,hpg,hpm⟩:=zA hlt
  have rp:=zyt hpg
  have hk:=zyj p (hp p hpm)
  repeat'(first|refine zD (id:=6) zBI rfl (by kernel_rfl) ?_|refine zad 0 rfl hk rfl rfl rfl ?_|refine zu (.inl ⟨rfl,zI hty rfl rfl⟩) ?_|refine zu (.inl ⟨rfl,zm hty rfl rfl rfl (by assumption) rfl⟩) ?_|refine zS ⟨by kernel_rfl,?_⟩|refine WL_p hty rfl rfl ?_|refine zh ?_|refine zi ?_|refine za ?_|refine zf ?_|refine zxg ?_|refine zd rfl ?_|refine zbZ rfl ?_)
  refine⟨hlt,trivial,(zfY ⟨zz rfl rfl,zz rfl rfl,⟨_,rfl,zO ?_ rfl⟩,trivial⟩ ⟨zw rfl rfl,zw rfl rfl,trivial⟩)⟩
  exact congrArg (AV.int .i64) ((zy (by omega) (by omega)).trans (by omega))
 ·repeat'(first|refine WL_p hty rfl rfl ?_|refine zh ?_|refine zi ?_|refine za ?_|refine zbZ rfl ?_|refine zl ?_|refine zg ?_|refine zb rfl ?_)
  rfl
def fuelI(n:Int):Int:=zyH n 120
theorem zzc(n:Int):0≤fuelI n∧fuelI n≤119:=by
 obtain⟨_,k,h1,h2⟩:=zyq n (m:=120) (by omega) (by omega)
 unfold fuelI;omega
theorem zy9(n:Int):FC Tryz.prog 20 [.int .i64 n] (.int .i64 (fuelI n)):=by
 have z:(120:Int)≠0:=by decide
 have hw:IntKind.u64.wrap ((120:Nat):Int)=120:=by decide
 refine zo hty Tryz.func20 rfl rfl rfl fun w0=>?_
 repeat'(first|refine WL_m rfl (zx2 rfl zyX zy0 rfl) ?_|refine WL_m rfl (zx2 rfl zyZ zy2 rfl) ?_|refine WL_m rfl (zyW rfl rfl z rfl) ?_|refine WL_p hty rfl rfl ?_|refine zh ?_|refine zi ?_|refine za ?_|refine zg ?_)
 refine zaQ rfl ?_
 unfold fuelI zyH
 rw[hw]
def wnT:Tm:=.mk 9 0 [.mk 8 0 [.mk 2 0 [],.mk 2 1 [],.mk 2 2 []]]
theorem zyO:normR 0 lk0 wnT 1=(.mk 2 1 [],[[]],0):=by kernel_rfl
theorem zyQ:normR 0 lk0 wnT 0=(zT,[],7):=by kernel_rfl
theorem zy3:zxN 0 lk0 wnT [[]]=(.mk 2 1 [],0):=by kernel_rfl
theorem zyC:zxF 0 lk0 (.mk 2 1 [])=true:=by kernel_rfl
theorem zyv:zxF 0 lk0 wnT=false:=by kernel_rfl
end Go.Proofs.YtokfbblhjpfjkaaGreat
