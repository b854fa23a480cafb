/- Variables moved: shift.Shift, whose closure notes in a captured box that a varia -/
import Derived.Test.YtokfbblhjpfjkaaGreatGC
import Derived.Test.YtokfbblhjpfjkaaGreatGD
import Derived.Test.YtokfbblhjpfjkaaGreatGB
import Derived.OrdersIn
import Derived.RangeFuncNested
import Derived.RangeFuncLeaves
import Derived.Shelf.Abstract
import Derived.WalkKit
import Derived.OwnWalkIn
import Derived.TacticsInMore
import Derived.LoopNIn
import Derived.LoopIn
import Derived.BigFrameIn
import Derived.Test.YtokfbblhjpfjkaaGreatProg
import Derived.Test.YtokfbblhjpfjkaaGreatGG
set_option linter.unusedSimpArgs false
set_option linter.unusedVariables false
namespace Go.Proofs.YtokfbblhjpfjkaaGreat
open Go.Aw Go.RowKit
def zzh:List (Nat×List Nat):=[(0,[100000]),(1,[100000]),(2,[]),(3,[]),(4,[]),(5,[4]),(6,[]),(7,[4,5,6]),(8,[3,4,5,6,7]),(9,[]),(10,[2,3,4,5,6,7,8,9]),(11,[0,1,2,3,4,5,6,7,8,9,10]),(12,[0,1,2,3,4,5,6,7,8,9,10,11])]
def zAr:List (Nat×List Nat):=[(0,[]),(1,[100006]),(2,[0]),(3,[0,1,2])]
def zAu:List (Nat×List Nat):=[(0,[]),(1,[100006]),(2,[0]),(3,[0,1,2])]
attribute [local irreducible] WL AC WD WE MStep OkOp
def shF(by_ from_:Int)(n b:Int):Tm:=.mk 1 (if n <from_+b then n else n+by_) []
def shV(by_ from_:Int)(n b e:Int):Int:=if from_+b≤n∧65535 <n+by_ then 6 else e
mutual
def shE(by_ from_:Int):Int→Tm→Int→Int
 |b,.mk k n l,e=>if k=1 then shV by_ from_ n b e else zjr by_ from_ k b 0 l e
def zjr(by_ from_:Int):Int→Int→Int→List Tm→Int→Int
 |_,_,_,[],e=>e
 |k,b,i,t::l,e=>zjr by_ from_ k b (i+1) l (shE by_ from_ (b+zU k i) t e)
end
theorem zuJ(by_ from_ b:Int)(t:Tm)(e:Int):shE by_ from_ b t e=if t.kind=1 then shV by_ from_ t.num b e else zjr by_ from_ t.kind b 0 t.kids e:=by cases t;rw[shE];rfl
theorem zlt(by_ from_ k b:Int)(t:Tm): ∀ (l:List Tm) (i e:Int),zjr by_ from_ k b i (l++[t]) e=shE by_ from_ (b+zU k (i+l.length)) t (zjr by_ from_ k b i l e)
 |[],i,e=>by simp[zjr]
 |u::l,i,e=>by
  simp only[List.cons_append,zjr,zlt by_ from_ k b t l,List.length_cons]
  rw[show i+1+(l.length:Int)=i+((l.length+1:Nat):Int) by omega]
theorem zq8(by_ from_ k b e:Int){l:List Tm}{i:Nat}{t:Tm}(h:l[i]? =some t):zjr by_ from_ k b 0 (l.take (i+1)) e=shE by_ from_ (b+zU k i) t (zjr by_ from_ k b 0 (l.take i) e):=by
 have hlt:i <l.length:=(List.getElem?_eq_some_iff.1 h).1
 rw[List.take_add_one,h,Option.toList_some,zlt,List.length_take,Nat.min_eq_left (Nat.le_of_lt hlt),Int.zero_add]
theorem ztn(by_ from_ n b e:Int)(hn:0≤n∧n≤65535)(hb:0≤b∧b≤4194304)(h1:0≤by_∧by_≤65535)(h2:0≤from_∧from_≤65535):
 MC Tryz.prog 64 [.int .i64 n,.int .i64 b,.eptr [.int .i64 from_] 0,.eptr [.int .i64 by_] 0,.ptr 0 0] (.box [.int .i64 e]) (aT (shF by_ from_ n b)) (.box [.int .i64 (shV by_ from_ n b e)]):=by
 have w1:IntKind.i64.wrap (from_+b)=from_+b:=zy (by omega) (by omega)
 have w2:IntKind.i64.wrap (n+by_)=n+by_:=zy (by omega) (by omega)
 unfold shF shV
 refine zcK hty Tryz.func64 rfl rfl rfl rfl rfl fun w0 B=>?_
 repeat'(first|refine zv 0 rfl (ziL _) rfl rfl rfl ?_|refine WL_p hty rfl rfl ?_|refine zh ?_|refine zi ?_|refine za ?_|refine zxg ?_|refine zd rfl ?_|refine zbZ rfl ?_|refine zg ?_|refine zj rfl rfl rfl rfl (fun _=>?_) (fun _=>?_))
 ·rename_i hq
  rw[w1]at hq
  rw[if_pos hq,if_neg (by omega)]
  exact zdL 0 rfl rfl rfl rfl rfl rfl (.refl _)
 ·rename_i hq hp
  rw[w1]at hq
  rw[w2]at hp
  rw[if_neg hq,if_pos (by omega)]
  exact zg1 0 rfl rfl rfl rfl rfl (.of_eq (congrArg (fun x=>aT (.mk 1 x [])) w2)) (.refl _)
 ·rename_i hq hp
  rw[w1]at hq
  rw[w2]at hp
  rw[if_neg hq,if_neg (by omega)]
  exact zg1 0 rfl rfl rfl rfl rfl (.of_eq (congrArg (fun x=>aT (.mk 1 x [])) w2)) (.refl _)
abbrev shC(by_ from_:Int):AV:=.fn (.func 64) [] [.eptr [.int .i64 from_] 0,.eptr [.int .i64 by_] 0,.ptr 0 0]
set_option maxHeartbeats 4000000 in
theorem zr9(by_ from_:Int)(h1:0≤by_∧by_≤65535)(h2:0≤from_∧from_≤65535):
 ∀ n,n≤1048576→ ∀ (t:Tm) (b e:Int),t.size≤n→formedT t=true→0≤b→b+t.depth≤4194304→
 MC Tryz.prog 63 [aT t,.int .i64 b,shC by_ from_] (.box [.int .i64 e]) (aT (zeF (shF by_ from_) b t)) (.box [.int .i64 (shE by_ from_ b t e)]):=by
 intro n
 induction n with
 |zero=>intro hn t b e ht;have:=t.size_pos;omega
 |succ n ih=>
 intro hn t b e ht hfm hb0 hbM
 have ih:=ih (by omega)
 have hs:=t.size_eq
 have hdp:=t.depth_eq
 have hlen:=zM t.kids
 have hme:=zqX (shF by_ from_) b t
 have hse:=zuJ by_ from_ b t e
 refine zcK hty Tryz.func63 rfl rfl rfl rfl rfl fun w0 B=>?_
 repeat'(first|refine WL_m rfl (zsP 0 rfl rfl rfl rfl rfl rfl (ztn by_ from_ t.num b e (zdk hfm ‹_›) ⟨hb0,by omega⟩ h1 h2) rfl rfl) ?_|refine WL_m rfl (zee hty 10 rfl rfl rfl rfl rfl (by rw[zeb];omega) rfl rfl rfl) ?_|refine WL_p hty rfl rfl ?_|refine zh ?_|refine zi ?_|refine za ?_|refine zf ?_|refine zxg ?_|refine zd rfl ?_|refine zbZ rfl ?_|refine zg ?_|refine zj rfl rfl rfl rfl (fun _=>?_) (fun _=>?_))
 ·rw[hme,if_pos ‹_›,hse,if_pos ‹_›]
  exact zdL 0 rfl rfl rfl rfl rfl rfl (.refl _)
 ·rename_i h1 h2
  rw[zeb]at h2
  have h3:t.kids=[]:=List.length_eq_zero_iff.1 (by omega)
  rw[hme,if_neg ‹_›,hse,if_neg ‹_›,h3]
  exact zg1 0 rfl rfl rfl rfl rfl (.agg (.cons (.refl _) (.cons (.refl _) (.cons (.nilF _ _ _) .nil)))) (.refl _)
 rename_i h1 h2
 rw[zeb]at h2
 rw[if_neg h1]at hme hse
 refine zW t.kids.length (fun _=>True) (fun j=>⟨envOf [(1,.int .i64 b),(2,shC by_ from_),(3,.ptr 3 0),(6,.ptr 6 0),(7,.arr 10),(29,sT t.kids),(30,.int .i64 ((rsT t.kids).length:Nat)),(31,.int .i64 (j:Nat))],
  bkOf [(0,.bx (some B) [.int .i64 (zjr by_ from_ t.kind b 0 (t.kids.take j) e)]),(3,.box (cT t)),(6,.box [.int .i64 0,.int .i64 0,.lst 3 [] true]),(10,.arr 25 3 (rsT (mapTs (shF by_ from_) t.kind b 0 (t.kids.take j))++List.replicate ((rsT t.kids).length-j) [.int .i64 0,.int .i64 0,.lst 3 [] true]) true)]⟩)
  (zfY ⟨zz rfl rfl,zz rfl rfl,zz rfl rfl,zz rfl rfl,zz rfl rfl,zz rfl rfl,zz rfl rfl,zz rfl rfl,trivial⟩ ⟨⟨⟨_,rfl,.of_eq ?_⟩,rfl⟩,zw rfl rfl,zw rfl rfl,zw rfl rfl,trivial⟩) trivial ?_
 ·rfl
 intro j hj _
 repeat'(first|refine zi ?_|refine za ?_)
 refine zj rfl rfl rfl rfl (fun hc=>?_) (fun hc=>?_)
 ·have hlt:j <t.kids.length:=by rw[zeb]at hc;omega
  obtain⟨k,hk,hmem⟩:=zA hlt
  have hks:=zK hmem
  have hkd:=zaU hmem
  have rk:=zac hk
  have hbi:0≤zU t.kind (j:Nat)∧zU t.kind (j:Nat)≤1:=by unfold zU;split <;>omega
  have hwr:IntKind.i64.wrap (b+zU t.kind (j:Nat))=b+zU t.kind (j:Nat):=zy (n:=b+zU t.kind (j:Nat)) (by omega) (by omega)
  have hkc:=ih k (b+zU t.kind (j:Nat)) (zjr by_ from_ t.kind b 0 (t.kids.take j) e) (by omega) (zao hfm hmem) (by omega) (by omega)
  rw[←zq8 by_ from_ t.kind b e hk, ←hwr]at hkc
  have htl:(rsT (mapTs (shF by_ from_) t.kind b 0 (t.kids.take j))).length=j:=by rw[zeb,zcL,List.length_take];omega
  have hg:=zhs (z:=([.int .i64 0,.int .i64 0,.lst 3 [] true]:List AV)) (n:=(rsT t.kids).length) htl (by rw[zeb];exact hlt)
  repeat'(first|refine zD (id:=10) zzh rfl (by kernel_rfl) ?_|refine zu (.inl ⟨rfl,zar 0 rfl (zcB _ _) rfl rfl rfl⟩) ?_|refine zu (.inl ⟨rfl,zcd 0 rfl rfl rfl hkc rfl rfl⟩) ?_|refine zu (.inl ⟨rfl,zgs hty rfl rfl rfl rfl rfl (Int.natCast_nonneg _) (by simp[zeb,zcL];omega) rfl⟩) ?_|refine zu (.inl ⟨rfl,zdK hty rfl rfl rfl rfl hg rfl rfl rfl rfl rfl⟩) ?_|refine zu (.inl ⟨rfl,zI hty rfl rfl⟩) ?_|refine zS ⟨by kernel_rfl,?_⟩|refine WL_p hty rfl rfl ?_|refine zh ?_|refine zi ?_|refine za ?_|refine zf ?_|refine zxg ?_|refine zd rfl ?_|refine WL_m rfl (zm hty rfl rfl rfl (by assumption) rfl) ?_)
  refine⟨hlt,trivial,(zfY ⟨zz rfl rfl,zz rfl rfl,zz rfl rfl,zz rfl rfl,zz rfl rfl,zz rfl rfl,zz rfl rfl,⟨_,rfl,zO ?_ rfl⟩,trivial⟩ ⟨zw rfl rfl,zw rfl rfl,zw rfl rfl,?_,trivial⟩)⟩
  ·exact congrArg (AV.int .i64) ((zy (by omega) (by omega)).trans (by omega))
  ·refine⟨⟨_,rfl,.of_eq (congrArg (fun r=>AB.arr 25 3 r true) ?_)⟩,rfl⟩
   rw[hwr]
   refine(zhy htl (by rw[zeb];exact hlt)).trans ?_
   rw[zjW (shF by_ from_) t.kind b hk,zas,rs1]
   rfl
 ·obtain rfl:j=t.kids.length:=by rw[zeb]at hc;omega
  repeat'(first|refine WL_p hty rfl rfl ?_|refine zh ?_|refine zi ?_|refine za ?_|refine zbZ rfl ?_|refine zl ?_|refine zg ?_)
  refine zpL (zaF 10 rfl) ?_
  refine zg1 0 rfl rfl rfl rfl rfl (.of_eq ?_) (.of_eq ?_)
  ·rw[hme,List.take_length,zeb,Nat.sub_self]
   exact congrArg (fun r=>AV.agg [.int .i64 t.kind,.int .i64 t.num,.lst 3 r false]) (List.append_nil _)
  ·rw[hse,List.take_length]
def zl3(n:Int):Bool:=decide (0≤n)&&decide (n≤65535)
theorem zmQ(n:Int):FC Tryz.prog 62 [.int .i64 n] (.bool (zl3 n)):=by
 unfold zl3
 refine zo hty Tryz.func62 rfl rfl rfl fun w0=>?_
 repeat'(first|refine WL_p hty rfl rfl ?_|refine zh ?_|refine zi ?_|refine za ?_|refine zg ?_|refine zx rfl rfl ?_|refine zq rfl rfl rfl ?_|refine zb rfl ?_|refine zj rfl rfl rfl rfl (fun _=>?_) (fun _=>?_))
 all_goals simp[*]
 all_goals omega
def zbs(t:Tm)(by_ from_:Int):Tm×Int:=
 if checkT t≠0 then(zT,checkT t)else if(zl3 by_&&zl3 from_)=false then(zT,1)else if shE by_ from_ 0 t 0≠0 then(zT,shE by_ from_ 0 t 0)else(zeF (shF by_ from_) 0 t,0)
theorem zjN(t:Tm)(by_ from_:Int)(hs:t.size≤1048576):FC Tryz.prog 37 [aT t,.int .i64 by_,.int .i64 from_] (.tup [aT (zbs t by_ from_).1,.int .i64 (zbs t by_ from_).2]):=by
 have hdl:=t.depth_le
 have hct:=zb2 t (by omega)
 have hm:checkT t=0→zl3 by_=true→zl3 from_=true→MC Tryz.prog 63 [aT t,.int .i64 0,shC by_ from_] (.box [.int .i64 (checkT t)]) (aT (zeF (shF by_ from_) 0 t)) (.box [.int .i64 (shE by_ from_ 0 t (checkT t))]):=by
  intro h1 h2 h3
  simp only[zl3,Bool.and_eq_true,decide_eq_true_eq]at h2 h3
  exact zr9 by_ from_ h2 h3 1048576 (by omega) t 0 (checkT t) hs (zeD h1) (by omega) (by omega)
 have hst:zbs t by_ from_=if checkT t≠0 then(zT,checkT t)else if(zl3 by_&&zl3 from_)=false then(zT,1)else if shE by_ from_ 0 t 0≠0 then(zT,shE by_ from_ 0 t 0)else(zeF (shF by_ from_) 0 t,0):=rfl
 have h1:=zmQ by_
 have h2:=zmQ from_
 refine zo hty Tryz.func37 rfl rfl rfl fun w0=>?_
 repeat'(first|refine zv 0 rfl hct rfl rfl rfl ?_|refine zL rfl h1 rfl (fun _=>?_) (fun _=>?_)|refine zL rfl h2 rfl (fun _=>?_) (fun _=>?_)|(refine za8 (id:=3) ?_;refine zab (zfY (l:=[(6,_),(8,_)]) (bl:=[(6,_),(8,_)]) ⟨zz rfl rfl,zz rfl rfl,trivial⟩ ⟨zw rfl rfl,zw rfl rfl,trivial⟩) ?_;refine zD (id:=3) zAr rfl (by kernel_rfl) ?_)|(refine za8 (id:=8) ?_;refine zab (zfY (l:=[(6,_),(8,_)]) (bl:=[(6,_),(8,_)]) ⟨zz rfl rfl,zz rfl rfl,trivial⟩ ⟨zw rfl rfl,zw rfl rfl,trivial⟩) ?_;refine zD (id:=8) zAu rfl (by kernel_rfl) ?_)|(refine zbd (z6 5 rfl rfl) ?_;refine zbd (z6 4 rfl rfl) ?_;refine WL_m rfl (znY rfl rfl rfl) ?_)|refine WL_m rfl (zcd 8 rfl rfl rfl (hm (by omega) ‹_› ‹_›) rfl rfl) ?_|refine zu (.inl ⟨rfl,zI hty rfl rfl⟩) ?_|refine zS ⟨by kernel_rfl,?_⟩|refine WL_p hty rfl rfl ?_|refine zh ?_|refine zi ?_|refine za ?_|refine zf ?_|refine zxg ?_|refine zd rfl ?_|refine zbZ rfl ?_|refine zg ?_|refine zx rfl rfl ?_|refine zot rfl rfl rfl ?_|refine zj rfl rfl rfl rfl (fun _=>?_) (fun _=>?_))
 ·rw[hst,if_pos (by assumption)]
  refine zH rfl rfl (.tup (.cons (.agg ?_) (.cons (.refl _) .nil)))
  repeat'(first|exact Wks.nil|refine Wks.cons (Wk.refl _) ?_|refine Wks.cons (Wk.full _ _ _) ?_)
 ·have hc:checkT t=0:=by omega
  rename_i he
  rw[hc]at he
  rw[hst,if_neg (by omega),if_neg (by simp[*]),if_pos he]
  refine zH rfl rfl (.tup (.cons (.agg ?_) (.cons (.of_eq (by rw[hc])) .nil)))
  repeat'(first|exact Wks.nil|refine Wks.cons (Wk.refl _) ?_|refine Wks.cons (Wk.full _ _ _) ?_)
 ·have hc:checkT t=0:=by omega
  rename_i he
  rw[hc]at he
  rw[hst,if_neg (by omega),if_neg (by simp[*]),if_neg he]
  exact zH rfl rfl (.refl _)
 ·have hc:checkT t=0:=by omega
  rw[hst,if_neg (by omega),if_pos (by simp[*])]
  refine zH rfl rfl (.tup (.cons (.agg ?_) (.cons (.refl _) .nil)))
  repeat'(first|exact Wks.nil|refine Wks.cons (Wk.refl _) ?_|refine Wks.cons (Wk.full _ _ _) ?_)
 ·have hc:checkT t=0:=by omega
  rw[hst,if_neg (by omega),if_pos (by simp[*])]
  refine zH rfl rfl (.tup (.cons (.agg ?_) (.cons (.refl _) .nil)))
  repeat'(first|exact Wks.nil|refine Wks.cons (Wk.refl _) ?_|refine Wks.cons (Wk.full _ _ _) ?_)
end Go.Proofs.YtokfbblhjpfjkaaGreat
namespace Go.Proofs.YtokfbblhjpfjkaaGreat
open Go.Aw Go.RowKit
attribute [local irreducible] WL AC WD WE MStep OkOp
def ztA(n j:Nat):Tm:=.mk 1 ((n:Int)-1-(j:Int)) []
def zeq(n:Nat):List Tm:=(List.range n).map (ztA n)
theorem zeU(n:Nat):(zeq n).length=n:=by simp[zeq]
theorem zrU{n j:Nat}(h:j <n):(zeq n)[j]? =some (ztA n j):=by simp[zeq,h]
theorem zro(n:Nat)(hn:n≤65536):FC Tryz.prog 237 [.int .i64 (n:Nat)] (sT (zeq n)):=by
 have hvl:=zeU n
 refine zo hty Tryz.func237 rfl rfl rfl fun w0=>?_
 repeat'(first|refine WL_m rfl (zee (n:=n) hty 10 rfl rfl rfl rfl rfl (by omega) rfl rfl rfl) ?_|refine WL_p hty rfl rfl ?_|refine zh ?_|refine zi ?_|refine za ?_|refine zf ?_|refine zxg ?_|refine zd rfl ?_|refine zbZ rfl ?_|refine zg ?_|refine zx rfl rfl ?_|refine zot rfl rfl rfl ?_|refine zj rfl rfl rfl rfl (fun _=>?_) (fun _=>?_))
 ·rename_i h
  have:n=0:=by omega
  subst this
  exact zH rfl rfl (.nilF _ _ _)
 ·rename_i h
  omega
 refine zW n (fun _=>True) (fun j=>⟨envOf [(0,.int .i64 (n:Nat)),(3,.arr 10),(14,.int .i64 (n:Nat)),(15,.int .i64 (j:Nat))],bkOf [(10,.arr 25 3 (rsT ((zeq n).take j)++List.replicate (n-j) [.int .i64 0,.int .i64 0,.lst 3 [] true]) true)]⟩)
  (zfY ⟨zz rfl rfl,zz rfl rfl,⟨_,rfl,zO ?_ rfl⟩,zz rfl rfl,trivial⟩ ⟨?_,trivial⟩) trivial ?_
 ·exact congrArg (AV.int .i64) (by rw[List.length_replicate])
 ·exact⟨⟨_,rfl,.refl _⟩,rfl⟩
 intro j hj _
 repeat'(first|refine zi ?_|refine za ?_)
 refine zj rfl rfl rfl rfl (fun hc=>?_) (fun hc=>?_)
 ·have hlt:j <n:=by omega
  have hk:=zrU hlt
  have htl:(rsT ((zeq n).take j)).length=j:=by rw[zeb,List.length_take];omega
  have hg:=zhs (z:=([.int .i64 0,.int .i64 0,.lst 3 [] true]:List AV)) (n:=n) htl hlt
  have w1:IntKind.i64.wrap ((n:Nat)-1:Int)=(n:Nat)-1:=zy (by omega) (by omega)
  have w2:IntKind.i64.wrap (IntKind.i64.wrap ((n:Nat)-1:Int)-(j:Nat))=(n:Nat)-1-(j:Nat):=by rw[w1];exact zy (by omega) (by omega)
  repeat'(first|refine zv 0 rfl (ziL _) rfl rfl rfl ?_|refine WL_m rfl (zgs hty rfl rfl rfl rfl rfl (Int.natCast_nonneg _) (by simp[zeb,zeU];omega) rfl) ?_|refine WL_m rfl (zdK hty rfl rfl rfl rfl hg rfl rfl rfl rfl rfl) ?_|refine WL_p hty rfl rfl ?_|refine zh ?_|refine zi ?_|refine za ?_|refine zf ?_|refine zxg ?_|refine zd rfl ?_)
  refine⟨hlt,trivial,(zfY ⟨zz rfl rfl,zz rfl rfl,zz rfl rfl,⟨_,rfl,zO ?_ rfl⟩,trivial⟩ ⟨?_,trivial⟩)⟩
  ·exact congrArg (AV.int .i64) ((zy (by omega) (by omega)).trans (by omega))
  ·refine⟨⟨_,rfl,.of_eq (congrArg (fun r=>AB.arr 25 3 r true) ?_)⟩,rfl⟩
   refine(zhy htl hlt).trans ?_
   rw[List.take_add_one,hk,Option.toList_some,zas,rs1]
   show _++[cT (.mk 1 _ [])]++_=_++[cT (.mk 1 _ [])]++_
   rw[w2]
 ·obtain rfl:j=n:=by omega
  repeat'(first|refine WL_p hty rfl rfl ?_|refine zh ?_|refine zi ?_|refine za ?_|refine zbZ rfl ?_|refine zl ?_|refine zg ?_)
  refine zbm (zaF 10 rfl) ?_
  refine zH rfl rfl (.of_eq ?_)
  rw[List.take_of_length_le (by omega),Nat.sub_self]
  exact congrArg (fun r=>AV.lst 3 r false) (List.append_nil _)
end Go.Proofs.YtokfbblhjpfjkaaGreat
namespace Go.Proofs.YtokfbblhjpfjkaaGreat
open Go.Aw Go.RowKit
attribute [local irreducible] WL AC WD WE MStep OkOp
def zjx(m e:Int):Int:=if m=0 then e else m
theorem zg4(t:Tm)(m e:Int):MC Tryz.prog 235 [.ptr 0 0,aT t,.int .i64 e] (.box [.int .i64 m]) (aT t) (.box [.int .i64 (zjx m e)]):=by
 unfold zjx
 refine zcK hty Tryz.func235 rfl rfl rfl rfl rfl fun w0 B=>?_
 repeat'(first|refine WL_p hty rfl rfl ?_|refine zh ?_|refine zi ?_|refine za ?_|refine zxg ?_|refine zd rfl ?_|refine zbZ rfl ?_|refine zg ?_|refine zj rfl rfl rfl rfl (fun _=>?_) (fun _=>?_))
 ·rw[if_pos (by assumption)]
  exact zdL 0 rfl rfl rfl rfl rfl rfl (.refl _)
 ·rw[if_neg (by assumption)]
  exact zdL 0 rfl rfl rfl rfl rfl rfl (.refl _)
def zbe(l:List Tm)(by_:Int):List Tm:=l.map fun t=>(zbs t by_ 0).1
def zbv(l:List Tm)(by_:Int)(m:Int):Int:=l.foldl (fun m t=>zjx m (zbs t by_ 0).2) m
theorem zmy{l:List Tm}{i:Nat}{t:Tm}(h:l[i]? =some t)(by_:Int):zbe (l.take (i+1)) by_=zbe (l.take i) by_++[(zbs t by_ 0).1]:=by
 rw[List.take_add_one,h,Option.toList_some];simp[zbe]
theorem zlN{l:List Tm}{i:Nat}{t:Tm}(h:l[i]? =some t)(by_ m:Int):zbv (l.take (i+1)) by_ m=zjx (zbv (l.take i) by_ m) (zbs t by_ 0).2:=by
 rw[List.take_add_one,h,Option.toList_some];simp[zbv]
theorem zbA(l:List Tm)(by_:Int):(zbe l by_).length=l.length:=by simp[zbe]
theorem zii(l:List Tm)(by_ m:Int)(hl:sizes l≤1048576)(hne:l≠[]):
 MO Tryz.prog 236 [.ptr 0 0,sT l,.int .i64 by_] (.box [.int .i64 m]) 25 3 (rsT (zbe l by_)) true (.box [.int .i64 (zbv l by_ m)]):=by
 have hlen:=zM l
 refine zsE hty Tryz.func236 rfl rfl rfl rfl rfl fun w0 B=>?_
 repeat'(first|refine WL_p hty rfl rfl ?_|refine zh ?_|refine zi ?_|refine za ?_|refine zf ?_)
 refine zab (zcc 107 rfl) ?_
 refine zW l.length (fun _=>True) (fun i=>⟨envOf [(0,.ptr 0 0),(2,.int .i64 by_),(7,grV 107 3 (rsT (zbe (l.take i) by_))),(10,sT l),(11,.int .i64 ((rsT l).length:Nat)),(12,.int .i64 (i:Nat))],
  bkOf [(0,.bx (some B) [.int .i64 (zbv (l.take i) by_ m)]),(107,grB 25 3 (rsT (zbe (l.take i) by_)))]⟩)
  (zfY ⟨zz rfl rfl,zz rfl rfl,⟨_,rfl,.inl ⟨.nil _ _ _,rfl⟩⟩,zz rfl rfl,zz rfl rfl,zz rfl rfl,trivial⟩ ⟨zw rfl rfl,zw rfl rfl,trivial⟩) trivial ?_
 intro i hi _
 repeat'(first|refine zi ?_|refine za ?_)
 refine zj rfl rfl rfl rfl (fun hc=>?_) (fun hc=>?_)
 ·have hlt:i <l.length:=by rw[zeb]at hc;omega
  obtain⟨a,ha,hmem⟩:=zA hlt
  have ra:=zac ha
  have has:=zK hmem
  have h1:=zjN a by_ 0 (by omega)
  have h2:=zg4 (zbs a by_ 0).1 (zbv (l.take i) by_ m) (zbs a by_ 0).2
  rw[←zlN ha]at h2
  have hnx:=zmy ha by_
  generalize (zbs a by_ 0).1=u at h1 h2 hnx
  generalize (zbs a by_ 0).2=e at h1 h2
  repeat'(first|refine zv 0 rfl h1 rfl rfl rfl ?_|refine WL_m rfl (zcd 0 rfl rfl rfl h2 rfl rfl) ?_|refine WL_m rfl (zck hty 307 rfl rfl rfl rfl rfl rfl rfl (by simp only[zeb,zbA,List.length_take,List.length_cons,List.length_nil];omega) rfl rfl rfl) ?_|refine WL_p hty rfl rfl ?_|refine zh ?_|refine zi ?_|refine za ?_|refine zf ?_|refine zxg ?_|refine zd rfl ?_|refine WL_m rfl (zm hty rfl rfl rfl (by assumption) rfl) ?_)
  have hnx:rsT (zbe (l.take (i+1)) by_)=rsT (zbe (l.take i) by_)++[cT u]:=by rw[hnx,zas,rs1]
  refine⟨hlt,trivial,(zbf [(107,307)] rfl ⟨⟨_,rfl,.inl ⟨.refl _,rfl⟩⟩,⟨_,rfl,.inl ⟨.refl _,rfl⟩⟩,⟨_,rfl,.inl ⟨zgT rfl ?_,zc7 rfl⟩⟩,⟨_,rfl,.inl ⟨.refl _,rfl⟩⟩,⟨_,rfl,.inl ⟨.refl _,rfl⟩⟩,⟨_,rfl,zO ?_ rfl⟩,trivial⟩ ⟨⟨⟨_,rfl,.refl _⟩,rfl⟩,⟨⟨_,rfl,zdt ?_⟩,zbu⟩,trivial⟩)⟩
  ·exact hnx.symm
  ·exact congrArg (AV.int .i64) ((zy (by omega) (by omega)).trans (by omega))
  ·exact hnx.symm
 ·obtain rfl:i=l.length:=by rw[zeb]at hc;omega
  rw[List.take_length]
  have hr:rsT (zbe l by_)≠[]:=by
   intro q
   have:=congrArg List.length q
   rw[zeb,zbA]at this
   exact hne (List.length_eq_zero_iff.1 this)
  generalize rsT (zbe l by_)=rs at hr⊢
  cases rs with
  |nil=>exact absurd rfl hr
  |cons r rs=>
   repeat'(first|refine WL_p hty rfl rfl ?_|refine zh ?_|refine zi ?_|refine za ?_|refine zbZ rfl ?_|refine zl ?_|refine zg ?_)
   exact zre 0 107 rfl rfl rfl rfl rfl (.refl _)
end Go.Proofs.YtokfbblhjpfjkaaGreat
namespace Go.Aw
open Go.RowKit
def zDn(o:Oper):Bool:=match o.op with
 | .defer _=>false
 |_=>true
theorem zpc{o:Oper}(h:zDn o=true): ∀ c,o.op≠.defer c:=fun c e=>by simp[zDn,e]at h
theorem znu{n:Nat}{P:Program}{row:String}{args:Array Value}{w:World}{R:Value→World→Prop}{r:Nat}(h:Rows P row args w R):RowsIn (Fence.wide.inRound r) n P row args w R:=
 fun c cs _=>let ⟨v,w',q,s⟩:=h c cs;⟨v,w',q,stepsIn_wide.2 s⟩
theorem zpu{n:Nat}{P:Program}{o:Oper}{a:Act}{next next':Act→World→Prop}{Q:Exit→Act→World→Prop}{r:Nat}(hn: ∀ a w,next a w→next' a w){x:Result Next}(h:o.upon P a next Q x):o.uponIn (Fence.wide.inRound r) n P a next' Q x:=by
 have hd:(Fence.wide.inRound r).depth.isSome=true→1≤n:=fun q=>by simp[Fence.inRound,Fence.wide]at q
 cases x with
 |ok nx w=>
  cases nx with
  |value v=>exact hn _ _ h
  |skip=>exact hn _ _ h
  |defer d=>exact hn _ _ h
  |enter f args=>
   refine⟨hd,(callsIn_wide (n:=n-1)).2 (Calls.mono h fun e w' q=>?_)⟩
   cases e with
   |returned v=>exact hn _ _ q
   |panicked ch=>exact q
   |outgrown=>exact q
  |row row args=>exact⟨hd,(znu h).mono fun v w' q=>hn _ _ q⟩
  |_=>exact absurd h (by simp[Oper.upon])
 |halt s w=>
  cases s with
  |panic v=>exact h
  |_=>exact absurd h (by simp[Oper.upon])
theorem zd3{n:Nat}{P:Program}{ops:Array Oper}{Q:Exit→Act→World→Prop}{r:Nat}(hp:ops.toList.all zDn=true)(hQ: ¬LetsOut Q):
 ∀ (l:List Nat) (a:Act) (w:World),wpOps P ops Q l a w→wpOpsIn (Fence.wide.inRound r) n P ops Q l a w
 |[],_,_,h=>h
 |i::l,a,w,h=>by
  simp only[wpOps]at h
  simp only[wpOpsIn]
  cases ho:ops[i]? with
  |none=>rw[ho]at h;exact zd3 hp hQ l a w h
  |some o=>
   rw[ho]at h
   simp only at h⊢
   have hpl:zDn o=true:=by
    rw[List.all_eq_true]at hp
    exact hp o (Array.mem_toList_iff.2 (Array.mem_of_getElem? ho))
   split
   ·rename_i hw
    rw[if_pos hw]at h
    rcases h with h|h
    ·refine⟨fun _ _=>trivial,?_⟩
     rw[Oper.semAt_eq _ _ _ (zpc hpl)]
     exact zpu (fun a' w' q=>zd3 hp hQ l a' w' q) h
    ·exact absurd h.2 hQ
   ·rename_i hw
    rw[if_neg hw]at h
    exact⟨fun _ _=>trivial,zd3 hp hQ l _ w h⟩
section
variable {P:Program} {w0:B0} {nt:Nat} {s s':AS} {ops:Array Oper} {C:Exit→AS→Prop}
def AR(P:Program)(w0:B0)(nt:Nat)(c:Code)(s:AS)(K:Exit→AS→Prop):Prop:=
 ∀ r n β S a w (Q:Exit→Act→World→Prop),SR w0 nt β S s a w→(∀ e β' S' a' w' s',K e s'→SR w0 nt β' S' s' a' w'→Q e a' w')→c.wpIn (Fence.wide.inRound r) n P Q a w
def zkk(Q:Exit→Act→World→Prop):Exit→Act→World→Prop:=fun e a w=>e=.normal∧Q .normal a w
theorem zku{Q:Exit→Act→World→Prop}: ¬LetsOut (zkk Q):=fun h=>by
 obtain⟨_,_,q,_⟩:=h
 cases q
theorem zsi(pt:List (List Nat)){id:Nat}(hp:ops.toList.all zDn=true)(hm:P.follows .mixedOrders=true)(hpt:zhM pt 0 ops.toList=true)
 (h:WD P w0 nt ops pt s [] ops.toList (fun r=>chk pt s r.reverse=true∧C .normal (onAll r s))):AR P w0 nt (.region id ops true) s C:=by
 intro rd n β S a w Q hs hq
 obtain⟨es,h1,h2,h3,h4⟩:=h
 simp only[List.append_nil,List.length_nil,Nat.zero_add]at h2 h3 h4
 rw[List.reverse_reverse]at h3
 rw[←zjc,List.reverse_reverse]at h4
 have hl:es.length=ops.size:=by simpa using h1
 have main:wpAny P .any ops (zkk Q) ops.size (Array.replicate ops.size false) a {w with drawn:=w.drawn+1}:=by
  refine zmV hpt hl h3 (fun i o e ho he=>h2 i o e (by simpa using ho) he) (fun β' S' a' w' hs'=>⟨rfl,hq .normal β' S' a' w' _ h4 hs'⟩) ops.size _ β S a _ (by simp) ?_ ?_ ?_
  ·intro j oj _ hl
   simp only[Array.getD_eq_getD_getElem?]at hl
   rcases Nat.lt_or_ge j ops.size with q|q
   ·simp[q]at hl
   ·simp[Nat.not_lt.2 q]at hl
  ·refine Nat.le_trans List.count_le_length ?_
   simp
  ·have e1:actF (fun j=>(Array.replicate ops.size false).getD j false) 0 es s=s:=by
    have hD:(fun j=>(Array.replicate ops.size false).getD j false)=fun _=>false:=by
     funext j
     rw[Array.getD_eq_getD_getElem?]
     rcases Nat.lt_or_ge j ops.size with q|q
     ·simp[q]
     ·simp[Nat.not_lt.2 q]
    rw[hD]
    have: ∀ (l:List Ent) (k:Nat) (s:AS),actF (fun _=>false) k l s=s:=fun l=>by
     induction l with
     |nil=>intro _ _;rfl
     |cons a l ih=>intro k s;simp only[actF];exact ih _ _
    exact this _ _ _
   rw[e1]
   exact hs.drawn
 refine wpIn_mono (Q:=zkk Q) (wpIn_region_draw fun t=>zd3 hp zku _ _ _ ?_) ?_
 ·simp only[Region.schedule,hm,Bool.true_or,if_true]
  exact wpAny_sound ops.size t _ a _ main
 ·rintro e a w ⟨rfl,q⟩
  exact q
theorem zrg(tb:List (Nat×List Nat)){id:Nat}(hp:ops.toList.all zDn=true)(hm:P.follows .mixedOrders=true)(hpt:(ztw 0 tb&&zhM (zdQ tb) 0 ops.toList&&Nat.ble ops.toList.length 100000)=true)
 (h:WE P w0 nt ops (zdQ tb) s tb [] ops.toList (fun r=>zsF (zdQ tb) s (unT r).reverse=true∧C .normal (onT r s))):AR P w0 nt (.region id ops true) s C:=by
 simp only[Bool.and_eq_true]at hpt
 refine zsi (zdQ tb) hp hm hpt.1.2 ?_
 refine zsY (fun es q=>?_) (h rfl hpt.1.1 (by simp[unT]) (by simp only[unT,List.length_nil,Nat.zero_add];exact Nat.le_of_ble_eq_true hpt.2))
 have q:zsF (zdQ tb) s (unT (tagIt es)).reverse=true∧C .normal (onT (tagIt es) s):=q
 rw[zpb,zqp]at q
 exact⟨zqS q.1,q.2⟩
end
theorem VR.monoC{β:Bt}{S S':St}{w w':World}(hS: ∀ b o v,S b o→w.cell? ⟨b,o,none⟩=some v→S' b o∧w'.cell? ⟨b,o,none⟩=some v){v:Value}{x:AV}(h:VR β S w v x):VR β S' w' v x:=by
 induction h with
 |any v=>exact .any v
 |int k n=>exact .int k n
 |bool b=>exact .bool b
 |str s=>exact .str s
 |nilp=>exact .nilp
 |nilf=>exact .nilf
 |fn f fi ca xi xa h1 h2 _ _ i3 i4=>exact .fn f fi ca xi xa h1 h2 i3 i4
 |lst0 es full=>exact .lst0 es full
 |lstZ a es full=>exact .lstZ a es full
 |lst b o n c es rows full cells h1 h2 h3 h4 h5 _ i6=>
  exact .lst b o n c es rows full cells h1 h2 h3 h4 (fun i j hi hj=>let ⟨a,q,r⟩:=h5 i j hi hj;⟨(hS _ _ _ a q).1,(hS _ _ _ a q).2,r⟩) i6
 |agg cs xs h1 _ h4 i3=>exact .agg cs xs h1 i3 h4
 |tup cs xs h1 _ i3=>exact .tup cs xs h1 i3
 |ptr id off bi h=>exact .ptr id off bi h
 |arr id bi h=>exact .arr id bi h
 |aptr id i off bi h=>exact .aptr id i off bi h
 |mp id bi h=>exact .mp id bi h
 |eptr b o off row cells h5 _ i6=>exact .eptr b o off row cells (fun j hj=>let ⟨a,q,r⟩:=h5 j hj;⟨(hS _ _ _ a q).1,(hS _ _ _ a q).2,r⟩) i6
end Go.Aw
namespace Go.Proofs.YtokfbblhjpfjkaaGreat
open Go.RowKit Go.Shelf Go.Aw
attribute [local go_sem] Oper.semAt_some
def upto{α:Type}(f:Nat→α)(k:Nat):List α:=(List.range k).map f
theorem zhA{α:Type}(f:Nat→α)(k:Nat):upto f (k+1)=upto f k++[f k]:=by simp[upto,List.range_succ]
theorem zor{α:Type}(f:Nat→α)(k:Nat):(upto f k).length=k:=by simp[upto]
def zvm:Value→Int
 | .int _ n=>n
 |_=>0
set_option maxRecDepth 100000 in
set_option maxHeartbeats 4000000 in
theorem ztv{α:Type}(encs:α→Array Value)(f:Nat→α)(n l Bs b off len cap:Nat)(hn:1≤n)(Kp:World→World→Prop)(hK0: ∀ w,Kp w w)(hKt: ∀ {A B C:World},Kp A B→Kp B C→Kp A C)
 (hKc: ∀ {A B:World} {p:Addr},Kp A B→(p.block=Bs∨p.block=b)→B.cell? p=A.cell? p) (c:Nat→Nat→Value) (hf: ∀ k,k <len→encs (f k)= #[.int .i64 ((len:Int)-1-k),.agg #[c (len-1-k) 0,c (len-1-k) 1,c (len-1-k) 2]]) (hreach:len*24≤140737488351232) (J Jx:List α→World→Prop)
 (hY: ∀ pre x W,J pre W→pre.length <len→YieldAt Fence.wide (n-1) Tryz.prog l (encs x) W fun e W'=>
   (e=.returned (.bool true)∧J (pre++[x]) W'∧Kp W W')∨(e=.returned (.bool false)∧Jx (pre++[x]) W'))
 (W:World) (hBs:W.cell? ⟨Bs,0,none⟩=some (.slice (some ⟨b,off,none⟩) len cap)) (hc: ∀ i j,i <len→j <3→W.cell? ⟨b,off+i*3+j,none⟩=some (c i j)) (h0:J [] W):
 CallsIn Fence.wide n Tryz.prog 269 #[.func (.yield l) #[] #[],.pointer (some ⟨Bs,0,none⟩)] W fun e W'=>(∃ v,e=.returned v)∧
  ((∃ ys,ys=upto f len∧J ys W')∨(∃ pre,(∃ k,k≤len∧pre=upto f k)∧Jx pre W')):=by
 refine callsIn_of_wp Tryz.func269 rfl trivial ?_ rfl
 simp only[Tryz.ntmps269,List.size_toArray,List.length_cons,List.length_nil,Nat.reduceAdd,Nat.reduceSub,Array.replicate_succ,Array.replicate_zero,List.push_toArray,List.append_toArray,List.nil_append,List.cons_append]
 gi_wp2
 gi_loopw [3] (fun i wr=> ∃ k:Nat,k≤len∧i=.int .i64 ((len:Int)-1-k)∧J (upto f k) wr∧Kp W wr)
  (fun i _=>(zvm i+1).toNat)
 case atStart=>exact⟨0,Nat.zero_le _,by simp,h0,hK0 _⟩
 case round=>
  obtain⟨k,hk,rfl,hJs,hnx⟩:=hrel
  have hBx:wr.cell? ⟨Bs,0,none⟩=some (.slice (some ⟨b,off,none⟩) len cap):=(hKc hnx (.inl rfl)).trans hBs
  by_cases hlt:k <len
  ·have hcx: ∀ j,j <3→wr.cell? ⟨b,off+(len-1-k)*3+j,none⟩=some (c (len-1-k) j):=fun j hj=>(hKc hnx (.inr rfl)).trans (hc _ j (by omega) hj)
   obtain⟨fn,tmps,assign,body,hy,hR⟩:=hY _ (f k) wr hJs (by rw[zor];exact hlt)
   have c0:=hcx 0 (by omega)
   rw[Nat.add_zero]at c0
   have c1:=hcx 1 (by omega)
   have c2:=hcx 2 (by omega)
   rw[hf k hlt]at hy
   gi_wp2
   refine hR.mono ?_
   rintro e W3 (⟨rfl,hJ3,hk3⟩|⟨rfl,hJx3⟩)
   ·gi_wp2
    go_roundw
    case rel=>exact⟨k+1,by omega,by congr 1;omega,by rw[zhA];exact hJ3,hKt hnx hk3⟩
    case measure=>simp[zvm];omega
   ·gi_wp2
    refine bodyPost_ret (results_none rfl _ _ _) rfl ?_
    exact⟨⟨_,rfl⟩,.inr ⟨_,⟨k+1,by omega,(zhA _ _).symm⟩,hJx3⟩⟩
  ·obtain rfl:k=len:=by omega
   gi_wp2
   go_end0
   exact⟨⟨_,rfl⟩,.inl ⟨_,rfl,hJs⟩⟩
set_option maxRecDepth 100000 in
set_option maxHeartbeats 4000000 in
theorem zq4{α:Type}(n l Bs:Nat)(a:Option Addr)(cap:Nat)(J:List α→World→Prop)(W:World)(hBs:W.cell? ⟨Bs,0,none⟩=some (.slice a 0 cap))(h0:J [] W):
 CallsIn Fence.wide n Tryz.prog 269 #[.func (.yield l) #[] #[],.pointer (some ⟨Bs,0,none⟩)] W fun e W'=>(∃ v,e=.returned v)∧J [] W':=by
 refine callsIn_of_wp Tryz.func269 rfl trivial ?_ rfl
 simp only[Tryz.ntmps269,List.size_toArray,List.length_cons,List.length_nil,Nat.reduceAdd,Nat.reduceSub,Array.replicate_succ,Array.replicate_zero,List.push_toArray,List.append_toArray,List.nil_append,List.cons_append]
 gi_wp2
 gi_loopw [3] (fun i wr=>i=.int .i64 (-1)∧J [] wr) (fun _ _=>0)
 case atStart=>exact⟨rfl,h0⟩
 case round=>
  obtain⟨rfl,hJs⟩:=hrel
  gi_wp2
  go_end0
  exact⟨⟨_,rfl⟩,hJs⟩
set_option maxHeartbeats 1000000 in
theorem zn9(n:Nat)(a:Option Addr)(len cap:Nat)(w:World):
 CallsIn Fence.wide n Tryz.prog 262 #[.slice a len cap] w fun e w'=>e=.returned (.func (.func 269) #[] #[.pointer (some ⟨w.heap.size,0,none⟩)])∧w'=w.alloc (.cells #[.slice a len cap] 23):=by
 refine callsIn_of_wp Tryz.func262 rfl trivial ?_ rfl
 simp only[Tryz.ntmps262,List.size_toArray,List.length_cons,List.length_nil,Nat.reduceAdd,Nat.reduceSub,Array.replicate_succ,Array.replicate_zero,List.push_toArray,List.append_toArray,List.nil_append,List.cons_append]
 gi_wp2
 go_ret
 exact⟨rfl,rfl⟩
end Go.Proofs.YtokfbblhjpfjkaaGreat
namespace Go.Proofs.YtokfbblhjpfjkaaGreat
open Go.Aw Go.RowKit
section
attribute [local irreducible] WL AC WD WE AR MStep OkOp
def zsh:Code→Code
 | .seq _ (.seq _ (.seq (.seq _ (.block _ (.rangeFunc _ _ _ (.block _ c)))) _))=>c
 |_=>.skip
def zu8:List (Nat×List Nat):=[(0,[]),(1,[]),(2,[1]),(3,[]),(4,[1,2,3]),(5,[0,1,2,3,4]),(6,[0,1,2,3,4,5])]
set_option maxRecDepth 20000 in
theorem zrI(k:Int)(x o:Tm)(hx:x.size≤1048576)(p3 p7:Option BI)(w0:B0):
 AR Tryz.prog w0 23 (zsh (Tryz.f250.body.getD .skip)) ⟨envOf [(3,.ptr 13 0),(7,.ptr 17 0),(9,.ptr 19 0)],bkOf [(13,.bx p3 [.int .i64 k]),(17,.bx p7 (cT o)),(19,.rob (cT x))]⟩
  (fun e s=>e=.normal∧Less s ⟨envOf [],bkOf [(13,.bx p3 [.int .i64 k]),(17,.bx p7 (cT (.mk k 0 [x,o])))]⟩):=by
 have htw:=zcV x hx
 have hnd:FC Tryz.prog 124 [.int .i64 k,.lst 3 [cT x,cT o] true] (aT (.mk k 0 [x,o])):=(zdZ k [x,o]).args (.cons (.refl _) (.cons (by rw[←rs2];exact .full _ _ _) .nil))
 refine zrg zu8 (by kernel_rfl) rfl (by kernel_rfl) ?_
 refine zu (.inl ⟨rfl,zI hty rfl rfl⟩) ?_
 refine zu (.inl ⟨rfl,zI hty rfl rfl⟩) ?_
 refine zad 0 rfl htw rfl rfl rfl ?_
 refine zu (.inl ⟨rfl,zI hty rfl rfl⟩) ?_
 refine zu (.inl ⟨rfl,zI hty rfl rfl⟩) ?_
 refine zad 0 rfl hnd rfl rfl rfl ?_
 refine zu (.inl ⟨rfl,zI hty rfl rfl⟩) ?_
 exact zS ⟨by kernel_rfl,rfl,(zfY trivial ⟨zw rfl rfl,zw rfl rfl,trivial⟩)⟩
end
theorem bk3{a b c:Nat}{A B C k:AB}{id:Nat}(h:bkOf [(a,A),(b,B),(c,C)] id=some k):(id=a∧k=A)∨(id=b∧k=B)∨(id=c∧k=C):=by
 simp only[bkOf]at h
 split at h
 ·exact .inl ⟨Nat.eq_of_beq_eq_true (by assumption),(Option.some.inj h).symm⟩
 ·split at h
  ·exact .inr (.inl ⟨Nat.eq_of_beq_eq_true (by assumption),(Option.some.inj h).symm⟩)
  ·split at h
   ·exact .inr (.inr ⟨Nat.eq_of_beq_eq_true (by assumption),(Option.some.inj h).symm⟩)
   ·cases h
theorem env3{a b c:Nat}{A B C k:AV}{id:Nat}(h:envOf [(a,A),(b,B),(c,C)] id=some k):(id=a∧k=A)∨(id=b∧k=B)∨(id=c∧k=C):=by
 simp only[envOf]at h
 split at h
 ·exact .inl ⟨Nat.eq_of_beq_eq_true (by assumption),(Option.some.inj h).symm⟩
 ·split at h
  ·exact .inr (.inl ⟨Nat.eq_of_beq_eq_true (by assumption),(Option.some.inj h).symm⟩)
  ·split at h
   ·exact .inr (.inr ⟨Nat.eq_of_beq_eq_true (by assumption),(Option.some.inj h).symm⟩)
   ·cases h
structure NI (Wl:World) (S2:St) (b3 b7:Nat) (k:Int) (W:World) (o:Tm):Prop where
 below:BelowP (fun j=>j <Wl.heap.size∧j≠b7∧j≠b3) Wl W
 k3: ∃ t,W.heap[b3]? =some (.cells #[.int .i64 k] t (0,0))
 out: ∃ S:St,(∀ b o,S2 b o→S b o)∧(∀ b o,S b o→b <W.heap.size)∧(∀ b o,S b o→b <Wl.heap.size→S2 b o)∧ ∃ cs t,W.heap[b7]? =some (.cells cs t (0,0))∧cs.size=3∧CR nb S W cs 0 (cT o)
def bt3(b3 b7 b9:Nat):Bt:=fun id=>match id with
 |13=>some ⟨b3,0,0,0⟩
 |17=>some ⟨b7,0,0,0⟩
 |19=>some ⟨b9,0,0,0⟩
 |_=>none
theorem zpE{Wl:World}{S2:St}{b3 b7 b9:Nat}{k:Int}{W:World}{x o:Tm}(hx:x.size≤1048576)(hI:NI Wl S2 b3 b7 k W o)(h3:b3 <Wl.heap.size)(h7:b7 <Wl.heap.size)(h37:b3≠b7)
 (hS3: ∀ o,¬S2 b3 o) (hS7: ∀ o,¬S2 b7 o) (h9:Wl.heap.size≤b9) (t9:Nat) (cx:Array Value) (e9:W.heap[b9]? =some (.cells cx t9 (0,0))) (hcx:cx.size=3) (hc:CR nb S2 W cx 0 (cT x))
 {a:Act} (ha:a.tmps.size=23) (had:a.defers=[]) (a3:a.tmps.getD 3 undef=.pointer (some ⟨b3,0,none⟩)) (a7:a.tmps.getD 7 undef=.pointer (some ⟨b7,0,none⟩)) (a9:a.tmps.getD 9 undef=.pointer (some ⟨b9,0,none⟩))
 {r n:Nat} {Q:Exit→Act→World→Prop} (hq: ∀ a' W',NI Wl S2 b3 b7 k W' (.mk k 0 [x,o])→(∀ j,j <W.heap.size→j≠b3→j≠b7→W'.heap[j]? =W.heap[j]?)→W.heap.size≤W'.heap.size→Q .normal a' W'):
 (zsh (Tryz.f250.body.getD .skip)).wpIn (Fence.wide.inRound r) n Tryz.prog Q a W:=by
 obtain⟨hb,⟨t3,e3⟩,S,s1,s2,s3,cs,t7,e7,hcs,ho⟩:=hI
 have hsz:=hb.size
 have l9:b9 <W.heap.size:=zed e9
 let S':St:=fun b o=>S b o∨(b=b9∧o <3)
 let w0:B0:=⟨W,S',fun j=>j <W.heap.size∧j≠b3∧j≠b7,fun _ q=>q.1⟩
 have hup: ∀ b o,S b o→S' b o∧W.cell? ⟨b,o,none⟩=W.cell? ⟨b,o,none⟩:=fun b o q=>⟨.inl q,rfl⟩
 have n3: ∀ o,¬S' b3 o:=fun o q=>q.elim (fun q=>hS3 o (s3 _ _ q h3)) (fun q=>by omega)
 have n7: ∀ o,¬S' b7 o:=fun o q=>q.elim (fun q=>hS7 o (s3 _ _ q h7)) (fun q=>by omega)
 refine zrI k x o hx (some ⟨b3,0,0,0⟩) (some ⟨b7,0,0,0⟩) w0 r n (bt3 b3 b7 b9) S' a W Q ⟨⟨?_,?_,?_,fun _ _ q=>q,fun _ _ q _=>q,?_,BelowP.refl _ _⟩,?_,ha,had⟩ ?_
 ·intro id kk hk
  rcases bk3 hk with⟨rfl,rfl⟩|⟨rfl,rfl⟩|⟨rfl,rfl⟩
  ·refine⟨_,rfl,⟨_,t3,e3,rfl,fun j hj=>?_,n3,fun B q=>Option.some.inj q⟩,fun _ q=>q.2.1 rfl⟩
   obtain rfl:j=0:=by simp at hj;omega
   exact⟨.int _ _,rfl⟩
  ·exact⟨_,rfl,⟨_,t7,e7,hcs,ho.mono (fun _ _ q=>by cases q) hup,n7,fun B q=>Option.some.inj q⟩,fun _ q=>q.2.2 rfl⟩
  ·refine⟨_,rfl,fun j hj=>⟨.inr ⟨rfl,hj⟩,cx.getD j undef,?_,?_,?_⟩,fun q=>by cases q⟩
   ·have hj3:j <3:=hj
    have hlt:j <cx.size:=by omega
    simp only[World.cell?,e9]
    rw[if_neg (by decide),Array.getD_eq_getD_getElem?,Array.getElem?_eq_getElem hlt]
    rfl
   ·have:=(hc j hj).2;rwa[Nat.zero_add]at this
   ·have:=(hc j hj).1;rw[Nat.zero_add]at this
    exact this.mono (fun _ _ q=>q) (fun b o q=>⟨.inl (s1 _ _ q),rfl⟩)
 ·intro id bi q
  unfold bt3 at q
  split at q
  ·exact⟨_,rfl⟩
  ·exact⟨_,rfl⟩
  ·exact⟨_,rfl⟩
  ·cases q
 ·intro i j bi bj ki kj hij hi hki hj hkj qi qj
  rcases bk3 hi with⟨rfl,rfl⟩|⟨rfl,rfl⟩|⟨rfl,rfl⟩ <;>rcases bk3 hj with⟨rfl,rfl⟩|⟨rfl,rfl⟩|⟨rfl,rfl⟩ <;>first
   |exact absurd rfl hij
   |exact Bool.noConfusion hki
   |exact Bool.noConfusion hkj
   |(have e1:_=bi:=Option.some.inj qi
     have e2:_=bj:=Option.some.inj qj
     rw[←e1, ←e2]
     first|exact h37|exact h37.symm)
 ·exact fun b o q=>q.elim (s2 b o) (fun q=>q.1▸l9)
 ·intro t v hv
  rcases env3 hv with⟨rfl,rfl⟩|⟨rfl,rfl⟩|⟨rfl,rfl⟩
  ·rw[a3];exact .ptr 13 0 ⟨b3,0,0,0⟩ rfl
  ·rw[a7];exact .ptr 17 0 ⟨b7,0,0,0⟩ rfl
  ·rw[a9];exact .ptr 19 0 ⟨b9,0,0,0⟩ rfl
 ·rintro e β0 S0 a0 w' s' ⟨rfl,hle⟩ hs0
  obtain⟨β1,S1,hs⟩:=hle _ _ _ _ _ _ hs0
  obtain⟨q1,q2,q3,q4,q5,q6,q7⟩:=hs.hh
  have g3:=q1 13 _ rfl
  have g7:=q1 17 _ rfl
  obtain⟨bi3,_,⟨cs3,u3,m3,z3,y3,m3',pin3⟩,_⟩:=g3
  obtain rfl:=pin3 _ rfl
  obtain⟨bi7,_,⟨cs7,u7,m7,z7,y7,m7',pin7⟩,_⟩:=g7
  obtain rfl:=pin7 _ rfl
  have hW: ∀ j,j <W.heap.size→j≠b3→j≠b7→w'.heap[j]? =W.heap[j]? :=fun j h1 h2 h3=>q7.block j ⟨h1,h2,h3⟩
  refine hq _ _ ⟨hb.trans ⟨q7.os,q7.tape,q7.output,q7.size,fun j hj=>hW j (by omega) hj.2.2 hj.2.1⟩,?_,S1,fun b o q=>q4 b o (.inl (s1 _ _ q)),q6,fun b o q hl=>?_,cs7,u7,m7,z7,fun j hj=>⟨zbp (za7 (p:=zai) rfl hj) (y7 j hj).1,(y7 j hj).2⟩⟩ hW q7.size
  ·refine⟨u3,?_⟩
   obtain⟨c0,rfl⟩: ∃ c0,cs3= #[c0]:=by
    obtain⟨l⟩:=cs3
    match l,z3 with
    |[c0],_=>exact⟨c0,rfl⟩
   have:=(y3 0 (by simp)).1
   generalize hv:(#[c0]:Array Value).getD (0+0) undef=v at this
   cases this
   have:c0=.int .i64 k:=hv
   rw[m3,this]
  ·by_cases e3':b=b3
   ·exact absurd (e3'▸q) (m3' o)
   ·by_cases e7':b=b7
    ·exact absurd (e7'▸q) (m7' o)
    ·rcases q5 b o q ⟨by omega,e3',e7'⟩with q|q
     ·exact s3 _ _ q hl
     ·omega
theorem NI.own{Wl:World}{S2:St}{b3 b7:Nat}{k:Int}{W W':World}{o:Tm}{row:Option Nat}(h:NI Wl S2 b3 b7 k W o)(hg:W.grownBy W' row)(hr: ∀ r,row=some r→Wl.heap.size≤r∧ ∃ o:Obj,W.heap[r]? =some o∧o.isCells=false)
 (h3:b3 <Wl.heap.size) (h7:b7 <Wl.heap.size) (hS2: ∀ b o,S2 b o→b <Wl.heap.size):NI Wl S2 b3 b7 k W' o:=by
 obtain⟨hb,⟨t3,e3⟩,S,s1,s2,s3,cs,t7,e7,hcs,ho⟩:=h
 have hsz:=hb.size
 have hk: ∀ j,j <W.heap.size→some j≠row→W'.heap[j]? =W.heap[j]? :=fun j h1 h2=>hg.block j h1 h2
 have hlow: ∀ j,j <Wl.heap.size→some j≠row:=fun j hj e=>by have:=(hr j e.symm).1;omega
 refine⟨hb.trans ⟨hg.os,hg.tape,hg.output,hg.size,fun j hj=>hk j (by omega) (hlow j hj.1)⟩,⟨t3,(hk b3 (by omega) (hlow _ h3)).trans e3⟩,fun b o=>S b o∧some b≠row,fun b o q=>⟨s1 b o q,hlow _ (hS2 _ _ q)⟩,fun b o q=>Nat.lt_of_lt_of_le (s2 _ _ q.1) hg.size,fun b o q hl=>s3 b o q.1 hl,
  cs,t7,(hk b7 (by omega) (hlow _ h7)).trans e7,hcs,fun j hj=>⟨VR.monoC (fun b o v q hc=>?_) (ho j hj).1,(ho j hj).2⟩⟩
 have hne:some b≠row:=fun e=>by
  obtain⟨_,ob,e1,e2⟩:=hr b e.symm
  simp only[World.cell?,e1]at hc
  cases ob <;>first|(simp[Obj.isCells]at e2;done)|(simp at hc)
 refine⟨⟨q,hne⟩,?_⟩
 rw[←hc]
 simp only[World.cell?,hk b (s2 _ _ q) hne]
end Go.Proofs.YtokfbblhjpfjkaaGreat
namespace Go.Proofs.YtokfbblhjpfjkaaGreat
open Go.Aw Go.RowKit Go.Shelf
attribute [local go_sem] Oper.semAt_some
def nestT(k:Int)(l:List Tm)(b:Tm):Tm:=l.foldr (fun a o=>.mk k 0 [a,o]) b
def elemP(l:List Tm)(i:Nat):Tm:=l.getD (min i (l.length-1)) default
def zfq(k:Int)(l:List Tm)(t:Tm)(pre:List Nat):Tm:=pre.foldl (fun o i=>.mk k 0 [elemP l i,o]) t
abbrev ztD(l:List Tm)(d:Nat→Option Addr×Nat×Nat)(i:Nat):Array Value:=
 #[.int .i64 i,.agg #[.int .i64 (elemP l i).kind,.int .i64 (elemP l i).num,.slice (d i).1 (d i).2.1 (d i).2.2]]
def KpN(hs b3 b7:Nat)(A B:World):Prop:= ∀ j,j <hs→j≠b3→j≠b7→B.heap[j]? =A.heap[j]?
theorem zrY{l:List Tm}(i:Nat)(h:0 <l.length):elemP l i∈l:=by
 unfold elemP
 rw[List.getD_eq_getElem?_getD,List.getElem?_eq_getElem (by omega)]
 exact List.getElem_mem _
theorem zkR(k:Int)(l:List Tm)(t:Tm): ∀ m,m≤l.length→zfq k l t (upto (fun j=>l.length-1-j) m)=nestT k (l.drop (l.length-m)) t
 |0,_=>by simp[upto,zfq,nestT]
 |m+1,h=>by
  have ih:=zkR k l t m (by omega)
  rw[zhA]
  unfold zfq at ih⊢
  rw[List.foldl_append,ih,List.foldl_cons,List.foldl_nil,show l.length-m=l.length-(m+1)+1 by omega,List.drop_eq_getElem_cons (show l.length-(m+1) <l.length by omega)]
  have:elemP l (l.length-1-m)=l[l.length-(m+1)]'(by omega):=by
   unfold elemP
   rw[List.getD_eq_getElem?_getD,List.getElem?_eq_getElem (by omega)]
   simp only[Option.getD_some]
   congr 1
   omega
  rw[this]
  rfl
theorem zr2(k:Int)(l:List Tm)(t:Tm):zfq k l t (upto (fun j=>l.length-1-j) l.length)=nestT k l t:=by
 rw[zkR k l t l.length (Nat.le_refl _),Nat.sub_self,List.drop_zero]
theorem zjT{S:St}{w:World}{v:Value}{t:Tm}(h:VR nb S w v (aT t)): ∃ q n c,v=.agg #[.int .i64 t.kind,.int .i64 t.num,.slice q n c]∧VR nb S w (.slice q n c) (sT t.kids):=by
 cases h with
 |agg cs _ h1 h3 h4=>
  obtain⟨a,b,c,rfl⟩: ∃ a b c,cs= #[a,b,c]:=by
   obtain⟨l⟩:=cs
   match l,h1 with
   |[a,b,c],_=>exact⟨a,b,c,rfl⟩
  have e0:VR nb S w a (.int .i64 t.kind):=h3 0 (by simp)
  have e1:VR nb S w b (.int .i64 t.num):=h3 1 (by simp)
  have e2:VR nb S w c (sT t.kids):=h3 2 (by simp)
  cases e0
  cases e1
  have: ∀ {v:Value} {r:List (List AV)},VR nb S w v (.lst 3 r false)→ ∃ q n c,v=.slice q n c:=fun h=>by cases h <;>exact⟨_,_,_,rfl⟩
  obtain⟨q,n,d,rfl⟩:=this e2
  exact⟨q,n,d,rfl,e2⟩
theorem cso{w:World}{b:Nat}{i j:Nat}{v:Value}(h:i≠j):(w.setCell ⟨b,i,none⟩ v).cell? ⟨b,j,none⟩=w.cell? ⟨b,j,none⟩:=
 World.cell?_setCell_other _ _ _ _ (fun e=>h (by injection e))
theorem css{w:World}{a:Addr}{v u:Value}(h:w.cell? a=some u):(w.setCell a v).cell? a=some v:=World.cell?_setCell_same _ _ _ h
theorem zlf{S:St}{w:World}{cs:Array Value}{o:Tm}(hcs:cs.size=3)(ho:CR nb S w cs 0 (cT o)): ∃ q n c,cs= #[.int .i64 o.kind,.int .i64 o.num,.slice q n c]∧VR nb S w (.slice q n c) (sT o.kids):=by
 obtain⟨q,n,c,e,h⟩:=zjT (VRi.agg (β:=nb) cs (cT o) hcs (fun j hj=>by have:=(ho j hj).1;rwa[Nat.zero_add]at this) (fun j hj=>by have:=(ho j hj).2;rwa[Nat.zero_add]at this))
 cases e
 exact⟨q,n,c,rfl,h⟩
set_option maxRecDepth 100000 in
set_option maxHeartbeats 4000000 in
theorem zm0(k:Int)(l:List Tm)(t:Tm)(ht:t.size≤1048576)(hl:sizes l≤1048576)(p:Option Addr)(cap:Nat)(d:Nat→Option Addr×Nat×Nat)(q0:Option Addr)(n0 k0:Nat)(w:World)(S0:St)(hS: ∀ b o,S0 b o→b <w.heap.size)
 (hb:VR nb S0 w (.agg #[.int .i64 t.kind,.int .i64 t.num,.slice q0 n0 k0]) (aT t))
 (hel: ∀ i,0 <l.length→VR nb S0 w (.slice (d i).1 (d i).2.1 (d i).2.2) (sT (elemP l i).kids))
 (hseq: ∀ (Wl:World) (Bs b3 b7:Nat),Below w.heap.size w Wl→Wl.cell? ⟨Bs,0,none⟩=some (.slice p l.length cap)→w.heap.size≤b3→w.heap.size≤b7→Bs <Wl.heap.size→Bs≠b3→Bs≠b7→
   SeqStopsK Fence.wide 8 Tryz.prog 269 #[.pointer (some ⟨Bs,0,none⟩)] (ztD l d) (KpN Wl.heap.size b3 b7) (fun xs=>xs=upto (fun k=>l.length-1-k) l.length) (fun _=>True) l.length Wl):
 CallsIn Fence.wide 9 Tryz.prog 250 #[.int .i64 k,.slice p l.length cap,.agg #[.int .i64 t.kind,.int .i64 t.num,.slice q0 n0 k0]] w fun e w'=>
  ∃ v S',e=.returned v∧Below w.heap.size w w'∧(∀ b o,S0 b o→S' b o)∧(∀ b o,S' b o→b <w.heap.size→S0 b o)∧(∀ b o,S' b o→b <w'.heap.size)∧RV S' w w' v (aT (nestT k l t)):=by
 have hA:=((((Below.refl w.heap.size w).alloc (Nat.le_refl _) (Obj.cells #[Value.int IntKind.i64 k] 3)).alloc (by simp) (Obj.cells #[.int .i64 t.kind,.int .i64 t.num,.slice q0 n0 k0] 25)).alloc (by simp;omega) (Obj.cells #[Value.int IntKind.i64 0,Value.int IntKind.i64 0,Value.slice none 0 0] 25))
 refine callsIn_of_wp_marks Tryz.func250 rfl trivial ?_ rfl
 simp only[Tryz.ntmps250,List.size_toArray,List.length_cons,List.length_nil,Nat.reduceAdd,Nat.reduceSub,Array.replicate_succ,Array.replicate_zero,List.push_toArray,List.append_toArray,List.nil_append,List.cons_append]
 gi_wp2
 refine⟨trivial,(callsIn_wide.2 ((zcV t ht).pc _ S0 #[.agg #[.int .i64 t.kind,.int .i64 t.num,.slice q0 n0 k0]] (fun b o q=>?_) rfl ?_)).mono ?_⟩
 ·have:=hS b o q;simp;omega
 ·intro j hj
  obtain rfl:j=0:=by simp at hj;omega
  exact hb.mono (fun _ _ q=>q) (fun b o q=>⟨q,zch hA (hS b o q)⟩)
 rintro e W2 ⟨v,S2,rfl,hB2,h1,h2,h3,b',hrv⟩
 obtain⟨q1,n1,k1,rfl,hsl⟩:=zjT hrv
 gi_wp2
 refine⟨trivial,(zn9 8 p l.length cap _).mono ?_⟩
 rintro e W3 ⟨rfl,rfl⟩
 gi_wp2
 obtain⟨Wl,hWl⟩: ∃ Wl,((W2.alloc (Obj.cells #[Value.int IntKind.i64 t.kind,Value.int IntKind.i64 t.num,Value.slice q1 n1 k1] 25)).alloc (Obj.cells #[Value.slice p l.length cap] 23))=Wl:=⟨_,rfl⟩
 rw[hWl]
 have hsW:W2.heap.size+2=Wl.heap.size:=by rw[←hWl];simp
 have hsz2:w.heap.size+3≤W2.heap.size:=by have:=hB2.size;simpa using this
 have hBl:Below w.heap.size w Wl:=by
  rw[←hWl]
  have hC:=hA.trans (hB2.mono (by simp;omega))
  exact(hC.alloc (by omega) _).alloc (by simp;omega) _
 have hbs:Wl.cell? ⟨W2.heap.size+1,0,none⟩=some (.slice p l.length cap):=by rw[←hWl];simp
 have hB2l:Below W2.heap.size W2 Wl:=by rw[←hWl];exact((Below.refl _ W2).alloc (Nat.le_refl _) _).alloc (by simp) _
 have hNI0:NI Wl S2 w.heap.size W2.heap.size k Wl t:=by
  refine⟨BelowP.refl _ _,⟨3,?_⟩,S2,fun _ _ q=>q,fun b o q=>by have:=h3 b o q;omega,fun _ _ q _=>q, #[.int .i64 t.kind,.int .i64 t.num,.slice q1 n1 k1],25,?_,rfl,?_⟩
  ·rw[hB2l.block _ (by omega),hB2.block _ (by first|(simp;done)|(simp;omega)),Below.heap_alloc _ _ _ (by first|(simp;done)|(simp;omega)),Below.heap_alloc _ _ _ (by simp),World.alloc_heap_new]
  ·rw[←hWl,Below.heap_alloc _ _ _ (by simp),World.alloc_heap_new]
  ·intro j hj
   have hj3:j <3:=hj
   match j,hj3 with
   |0,_=>exact⟨.int _ _,rfl⟩
   |1,_=>exact⟨.int _ _,rfl⟩
   |2,_=>exact⟨hsl.mono (fun _ _ q=>q) (fun b o q=>⟨q,zch hB2l (h3 b o q)⟩),rfl⟩
 refine wpIn_rangeFunc_ownH (w0:=Wl) rfl (by decide) (gf:=269) (lb:= #[.pointer (some ⟨W2.heap.size+1,0,none⟩)]) rfl trivial (enters_of Tryz.func269 (by kernel_rfl) rfl)
  (hseq Wl (W2.heap.size+1) w.heap.size W2.heap.size hBl hbs (Nat.le_refl _) (by omega) (by omega) (by omega) (by omega))
  (fun h1 h2 j q1 q2 q3=>(h2 j q1 q2 q3).trans (h1 j q1 q2 q3))
  (fun W r o o' hr ho _ _ j q1 q2 q3=>World.putObj_heap_other (by omega))
  (Below.refl _ _) (fun _=>rfl)
  (fun pre W=>NI Wl S2 w.heap.size W2.heap.size k W (zfq k l t pre)) (fun _ _ _=>False)
  (fun pre A B row hs hg hr=>hs.own hg hr (by omega) (by omega) (fun b o q=>by have:=h3 b o q;omega))
  (fun _ _ _ _ _ hs _ _=>hs) hNI0
  (fun x a' W=>a'.tmps.size=23∧a'.defers=[]∧a'.tmps.getD 3 undef=.pointer (some ⟨w.heap.size,0,none⟩)∧a'.tmps.getD 7 undef=.pointer (some ⟨W2.heap.size,0,none⟩)∧ ∃ b9,Wl.heap.size≤b9∧a'.tmps.getD 9 undef=.pointer (some ⟨b9,0,none⟩)∧
    W.heap[b9]? =some (.cells #[.int .i64 (elemP l x).kind,.int .i64 (elemP l x).num,.slice (d x).1 (d x).2.1 (d x).2.2] 25 (0,0)))
  ?ax ?assign ?body ?done ?stop
 case ax=>
  rintro x a' _ A B row ⟨u1,u2,u3,u4,b9,u5,u6,u7⟩ hg hr
  refine⟨u1,u2,u3,u4,b9,u5,u6,(hg.block b9 (zed u7) fun e=>?_).trans u7⟩
  obtain⟨_,ob,e1,e2⟩:=hr b9 e.symm
  rw[u7]at e1
  cases e1
  simp[Obj.isCells]at e2
 case assign=>
  intro r pre x W K hI hK
  have hzW:=hI.below.size
  gi_wp2
  exact hK _ _ ((KeepsOthers.alloc _ _).from _) (fun j q1 _ _=>Below.heap_alloc _ _ _ (by omega)) (hI.own (World.grownBy_alloc _ _ none) (fun _ q=>by cases q) (by omega) (by omega) (fun b o q=>by have:=h3 b o q;omega))
   ⟨rfl,rfl,rfl,rfl,_,hzW,rfl,World.alloc_heap_new _ _⟩
 case body=>
  rintro r pre x a' W hr _ hI ⟨u1,u2,u3,u4,b9,u5,u6,u7⟩ hlen
  have hpos:0 <l.length:=by omega
  refine wpIn_block ?_
  have hzW:=hI.below.size
  have hmem:=zrY x hpos
  have hxs:=zK hmem
  have hS0W: ∀ b o,S0 b o→S2 b o∧W.cell? ⟨b,o,none⟩=w.cell? ⟨b,o,none⟩:=fun b o q=>⟨h1 b o q,by
   have hlt:=hS b o q
   have e1:=hBl.block b hlt
   have e2:=hI.below.block b ⟨by omega,by omega,by omega⟩
   simp only[World.cell?,e2,e1]⟩
  refine zpE (x:=elemP l x) (by omega) hI (by omega) (by omega) (by omega) (fun o q=>?_) (fun o q=>by have:=h3 _ _ q;omega) u5 25 _ u7 rfl ?_ u1 u2 u3 u4 u6 ?_
  ·have:=h2 _ _ q (by simp;omega)
   have:=hS _ _ this
   omega
  ·intro j hj
   have hj3:j <3:=hj
   match j,hj3 with
   |0,_=>exact⟨.int _ _,rfl⟩
   |1,_=>exact⟨.int _ _,rfl⟩
   |2,_=>exact⟨(hel x hpos).mono (fun _ _ q=>q) hS0W,rfl⟩
  intro a'' W' hn hk hz
  refine⟨⟨hz,fun j o hj ho hc=>?_⟩,fun j h1 h2 h3=>hk j (by omega) h2 h3,?_⟩
  ·exact(hk j (zed ho) (by omega) (by omega)).trans ho
  ·simp only[zfq,List.foldl_append,List.foldl_cons,List.foldl_nil]
   exact hn
 case done=>
  rintro D xs W hD rfl hI hDef
  have hzW:=hI.below.size
  have e6:W.heap[w.heap.size+1+1]? =some (.cells #[Value.int IntKind.i64 0,Value.int IntKind.i64 0,Value.slice none 0 0] 25 (0,0)):=by
   rw[hI.below.block _ ⟨by omega,by omega,by omega⟩,hB2l.block _ (by omega),hB2.block _ (by first|(simp;done)|(simp;omega))]
   have:=World.alloc_heap_new ((w.alloc (Obj.cells #[Value.int IntKind.i64 k] 3)).alloc (Obj.cells #[.int .i64 t.kind,.int .i64 t.num,.slice q0 n0 k0] 25)) (Obj.cells #[Value.int IntKind.i64 0,Value.int IntKind.i64 0,Value.slice none 0 0] 25)
   simpa using this
  obtain⟨hbw,_,S,s1,s2,s3,cs,t7,e7,hcs,ho⟩:=hI
  obtain⟨qq,nn,cc,rfl,hsq⟩:=zlf hcs ho
  have f0:W.cell? ⟨W2.heap.size,0,none⟩=some (.int .i64 (zfq k l t (upto (fun k=>l.length-1-k) l.length)).kind):=by simp[World.cell?,e7]
  have f1:W.cell? ⟨W2.heap.size,1,none⟩=some (.int .i64 (zfq k l t (upto (fun k=>l.length-1-k) l.length)).num):=by simp[World.cell?,e7]
  have f2:W.cell? ⟨W2.heap.size,2,none⟩=some (.slice qq nn cc):=by simp[World.cell?,e7]
  have g0:W.cell? ⟨w.heap.size+1+1,0,none⟩=some (.int .i64 0):=by simp[World.cell?,e6]
  have g1:W.cell? ⟨w.heap.size+1+1,1,none⟩=some (.int .i64 0):=by simp[World.cell?,e6]
  have g2:W.cell? ⟨w.heap.size+1+1,2,none⟩=some (.slice none 0 0):=by simp[World.cell?,e6]
  have z0:W.frozen? ⟨w.heap.size+1+1,0,none⟩=false:=by simp[World.frozen?,e6]
  have z1:W.frozen? ⟨w.heap.size+1+1,1,none⟩=false:=by simp[World.frozen?,e6]
  have z2:W.frozen? ⟨w.heap.size+1+1,2,none⟩=false:=by simp[World.frozen?,e6]
  gi_wp2
  obtain⟨Wf,hWf⟩: ∃ Wf,(((W.setCell ⟨w.heap.size+1+1,0,none⟩ (.int .i64 (zfq k l t (upto (fun k=>l.length-1-k) l.length)).kind)).setCell ⟨w.heap.size+1+1,1,none⟩ (.int .i64 (zfq k l t (upto (fun k=>l.length-1-k) l.length)).num)).setCell ⟨w.heap.size+1+1,2,none⟩ (.slice qq nn cc))=Wf:=⟨_,rfl⟩
  rw[hWf]
  have hDf:Wf.heap[D]? =some (.deferred (some [])):=by
   rw[←hWf]
   exact(((KeepsOthers.setCell W ⟨w.heap.size+1+1,0,none⟩ _).trans (KeepsOthers.setCell _ ⟨w.heap.size+1+1,1,none⟩ _)).trans (KeepsOthers.setCell _ ⟨w.heap.size+1+1,2,none⟩ _)).same D _ hDef rfl
  have hgW:W.grownBy Wf (some (w.heap.size+1+1)):=by
   rw[←hWf]
   exact⟨rfl,rfl,rfl,(((KeepsOthers.setCell W _ _).trans (KeepsOthers.setCell _ _ _)).trans (KeepsOthers.setCell _ _ _)).size,fun j _ hk=>((Below.heap_setCell _ _ _ j (fun e=>hk (by rw[e]))).trans (Below.heap_setCell _ _ _ j (fun e=>hk (by rw[e])))).trans (Below.heap_setCell _ _ _ j (fun e=>hk (by rw[e])))⟩
  have hgD:=grownBy_putObj' Wf D (.deferred none)
  refine⟨by simp,.inl ⟨_,_,rfl,run_takeDeferred hDf,?_⟩⟩
  have hDz:D≠w.heap.size+1+1:=by omega
  have y0:Wf.cell? ⟨w.heap.size+1+1,0,none⟩=some (.int .i64 (zfq k l t (upto (fun k=>l.length-1-k) l.length)).kind):=by rw[←hWf,cso (by simp),cso (by simp),css g0]
  have y1:Wf.cell? ⟨w.heap.size+1+1,1,none⟩=some (.int .i64 (zfq k l t (upto (fun k=>l.length-1-k) l.length)).num):=by rw[←hWf,cso (by simp),css (u:=.int .i64 0) (by rw[cso (by simp)];exact g1)]
  have y2:Wf.cell? ⟨w.heap.size+1+1,2,none⟩=some (.slice qq nn cc):=by rw[←hWf,css (u:=.slice none 0 0) (by rw[cso (by simp),cso (by simp)];exact g2)]
  have hDk: ∀ r,some D=some r→ ∃ o:Obj,Wf.heap[r]? =some o∧o.isCells=false:=fun r e=>by cases e;exact⟨_,hDf,rfl⟩
  have x0:=cell_kept y0 hgD hDk
  have x1:=cell_kept y1 hgD hDk
  have x2:=cell_kept y2 hgD hDk
  refine⟨.agg #[.int .i64 (zfq k l t (upto (fun k=>l.length-1-k) l.length)).kind,.int .i64 (zfq k l t (upto (fun k=>l.length-1-k) l.length)).num,.slice qq nn cc],?_,_,fun b o=>S b o∧b≠D,rfl,?_,?_,?_,?_,?_⟩
  ·simp[results,Tryz.f250,go_sem,x0,x1,x2]
  ·exact⟨((hgD.os.trans hgW.os).trans hbw.os).trans hBl.os,((hgD.tape.trans hgW.tape).trans hbw.tape).trans hBl.tape,((hgD.output.trans hgW.output).trans hbw.output).trans hBl.output,Nat.le_trans hBl.size (Nat.le_trans hzW (Nat.le_trans hgW.size hgD.size)),
    fun j hj=>(((hgD.block j (by have:=hgW.size;omega) (fun e=>by have:=Option.some.inj e;omega)).trans (hgW.block j (by omega) (fun e=>by have:=Option.some.inj e;omega))).trans (hbw.block j ⟨by omega,by omega,by omega⟩)).trans (hBl.block j hj)⟩
  ·exact fun b o q=>⟨s1 _ _ (h1 _ _ q),by have:=hS _ _ q;omega⟩
  ·exact fun b o q hl=>h2 _ _ (s3 _ _ q.1 (by omega)) (by simp;omega)
  ·exact fun b o q=>Nat.lt_of_lt_of_le (s2 _ _ q.1) (Nat.le_trans hgW.size hgD.size)
  ·refine⟨0,?_⟩
   rw[←zr2 k l t]
   show VR nb _ _ _ (aT _)
   have hv:VR nb S W (.agg #[.int .i64 (zfq k l t (upto (fun k=>l.length-1-k) l.length)).kind,.int .i64 (zfq k l t (upto (fun k=>l.length-1-k) l.length)).num,.slice qq nn cc]) (aT (zfq k l t (upto (fun k=>l.length-1-k) l.length))):=
    .agg _ _ rfl (fun j hj=>by have:=(ho j hj).1;rwa[Nat.zero_add]at this) (fun j hj=>by have:=(ho j hj).2;rwa[Nat.zero_add]at this)
   refine hv.monoC (fun b o v q hc=>?_)
   have hbD:b≠D:=fun e=>by
    subst e
    simp[World.cell?,hDef]at hc
   have hb6:b≠w.heap.size+1+1:=fun e=>by
    subst e
    have:=h2 _ _ (s3 _ _ q (by omega)) (by simp)
    have:=hS _ _ this
    omega
   have hlt:=s2 _ _ q
   refine⟨⟨q,hbD⟩,?_⟩
   rw[←hc]
   simp only[World.cell?,hgD.block b (by have:=hgW.size;omega) (fun e=>hbD (Option.some.inj e)),hgW.block b hlt (fun e=>hb6 (Option.some.inj e))]
 case stop=>
  rintro D c pre W _ _ h _
  exact h.elim
theorem zs2(l:List Tm)(d:Nat→Option Addr×Nat×Nat)(b off cap:Nat)(w Wl:World)(Bs b3 b7:Nat)(hl:l.length≤1048576)(hpos:0 <l.length)(hB:Below w.heap.size w Wl)(hb:b <w.heap.size)
 (hc: ∀ i,i <l.length→w.cell? ⟨b,off+i*3+0,none⟩=some (.int .i64 (elemP l i).kind)∧w.cell? ⟨b,off+i*3+1,none⟩=some (.int .i64 (elemP l i).num)∧w.cell? ⟨b,off+i*3+2,none⟩=some (.slice (d i).1 (d i).2.1 (d i).2.2))
 (hBs:Wl.cell? ⟨Bs,0,none⟩=some (.slice (some ⟨b,off,none⟩) l.length cap)) (h3:w.heap.size≤b3) (h7:w.heap.size≤b7) (hs:Bs <Wl.heap.size) (n3:Bs≠b3) (n7:Bs≠b7):
 SeqStopsK Fence.wide 8 Tryz.prog 269 #[.pointer (some ⟨Bs,0,none⟩)] (ztD l d) (KpN Wl.heap.size b3 b7) (fun xs=>xs=upto (fun k=>l.length-1-k) l.length) (fun _=>True) l.length Wl:=by
 intro lp J Jx W hW _ _ hY h0
 have hsz:=hB.size
 refine(ztv (ztD l d) (fun k=>l.length-1-k) 8 lp Bs b off l.length cap (by decide) (KpN Wl.heap.size b3 b7) (fun _ _ _ _ _=>rfl) (fun h1 h2 j q1 q2 q3=>(h2 j q1 q2 q3).trans (h1 j q1 q2 q3)) ?_
  (fun i j=>match j with|0=>.int .i64 (elemP l i).kind|1=>.int .i64 (elemP l i).num|_=>.slice (d i).1 (d i).2.1 (d i).2.2) (fun k hk=>?_) (by omega) J Jx hY W ((hW.cell (p:=⟨Bs,0,none⟩) hs).trans hBs) ?_ h0).mono ?_
 ·intro A B p hk hp
  have:B.heap[p.block]? =A.heap[p.block]? :=by
   rcases hp with hp|hp
   ·rw[hp];exact hk Bs hs n3 n7
   ·rw[hp];exact hk b (by omega) (by omega) (by omega)
  simp only[World.cell?,this]
 ·show #[Value.int .i64 ((l.length-1-k:Nat):Int),_]=_
  congr 3
  omega
 ·intro i j hi hj
  have e1: ∀ o,W.cell? ⟨b,o,none⟩=w.cell? ⟨b,o,none⟩:=fun o=>(hW.cell (p:=⟨b,o,none⟩) (show b <Wl.heap.size by omega)).trans (hB.cell (p:=⟨b,o,none⟩) hb)
  rw[e1]
  match j,hj with
  |0,_=>exact(hc i hi).1
  |1,_=>exact(hc i hi).2.1
  |2,_=>exact(hc i hi).2.2
 ·rintro e W' ⟨he,⟨ys,h1,h2⟩|⟨pre,_,h2⟩⟩
  ·exact⟨he,.inl ⟨ys,h1,h2⟩⟩
  ·exact⟨he,.inr ⟨pre,trivial,h2⟩⟩
theorem ztq(d:Nat→Option Addr×Nat×Nat)(a:Option Addr)(cap:Nat)(Wl:World)(Bs b3 b7:Nat)(hBs:Wl.cell? ⟨Bs,0,none⟩=some (.slice a 0 cap))(hs:Bs <Wl.heap.size):
 SeqStopsK Fence.wide 8 Tryz.prog 269 #[.pointer (some ⟨Bs,0,none⟩)] (ztD [] d) (KpN Wl.heap.size b3 b7) (fun xs=>xs=upto (fun k=>([]:List Tm).length-1-k) ([]:List Tm).length) (fun _=>True) ([]:List Tm).length Wl:=by
 intro lp J Jx W hW _ _ hY h0
 refine(zq4 8 lp Bs a cap J W ((hW.cell (p:=⟨Bs,0,none⟩) hs).trans hBs) h0).mono ?_
 rintro e W' ⟨he,h⟩
 exact⟨he,.inl ⟨[],by simp[upto],h⟩⟩
theorem zq9(k:Int)(l:List Tm)(t:Tm)(hl:sizes l≤1048576)(ht:t.size≤1048576):FC Tryz.prog 250 [.int .i64 k,sT l,aT t] (aT (nestT k l t)):=by
 refine⟨?_,⟨_,Tryz.func250,rfl,rfl⟩⟩
 intro w S0 ca hS hsz hca
 obtain⟨v0,v1,v2,rfl⟩: ∃ a b c,ca= #[a,b,c]:=by
  obtain⟨l⟩:=ca
  match l,hsz with
  |[a,b,c],_=>exact⟨a,b,c,rfl⟩
 have e0:VR nb S0 w v0 (.int .i64 k):=hca 0 (by simp)
 have e1:VR nb S0 w v1 (.lst 3 (rsT l) false):=hca 1 (by simp)
 have e2:VR nb S0 w v2 (aT t):=hca 2 (by simp)
 cases e0
 obtain⟨q0,n0,k0,rfl,_⟩:=zjT e2
 have hlen:=zM l
 refine(callsIn_wide (n:=9)).1 ?_
 have hnil: ∀ (p:Option Addr) (cap:Nat),l=[]→v1=.slice p 0 cap→CallsIn Fence.wide 9 Tryz.prog 250 #[.int .i64 k,v1,.agg #[.int .i64 t.kind,.int .i64 t.num,.slice q0 n0 k0]] w fun e w'=>
  ∃ v S',e=.returned v∧Below w.heap.size w w'∧(∀ b o,S0 b o→S' b o)∧(∀ b o,S' b o→b <w.heap.size→S0 b o)∧(∀ b o,S' b o→b <w'.heap.size)∧RV S' w w' v (aT (nestT k l t)):=by
  rintro p cap rfl rfl
  exact zm0 k [] t ht hl p cap (fun _=>(none,0,0)) q0 n0 k0 w S0 hS e2 (fun i h=>by simp at h) (fun Wl Bs b3 b7 _ hBs _ _ hs _ _=>ztq _ p cap Wl Bs b3 b7 hBs hs)
 generalize hx:rsT l=rs at e1
 cases e1 with
 |lst0=>
  exact hnil none 0 (List.length_eq_zero_iff.1 (by rw[←zeb,hx];rfl)) rfl
 |lstZ a=>
  exact hnil (some a) 0 (List.length_eq_zero_iff.1 (by rw[←zeb,hx];rfl)) rfl
 |lst b o n c _ _ _ cells h1 h2 h3 h4 h5 h6=>
  subst hx
  rw[zeb]at h1
  subst h1
  by_cases hpos:0 <l.length
  ·have hget: ∀ i,i <l.length→ ∃ q n c,cells i 0=.int .i64 (elemP l i).kind∧cells i 1=.int .i64 (elemP l i).num∧cells i 2=.slice q n c∧VR nb S0 w (.slice q n c) (sT (elemP l i).kids):=by
    intro i hi
    have hr:(rsT l).getD i []=cT (elemP l i):=by
     have hg:l[i]? =some (elemP l i):=by
      unfold elemP
      rw[List.getD_eq_getElem?_getD,show min i (l.length-1)=i by omega,List.getElem?_eq_getElem hi]
      rfl
     rw[List.getD_eq_getElem?_getD,zac hg];rfl
    have a0:=h6 i 0 hi (by decide)
    have a1:=h6 i 1 hi (by decide)
    have a2:=h6 i 2 hi (by decide)
    rw[hr]at a0 a1 a2
    have hz:=zlf (cs:= #[cells i 0,cells i 1,cells i 2]) (o:=elemP l i) (S:=S0) (w:=w) rfl (fun j hj=>by
     have hj3:j <3:=hj
     match j,hj3 with
     |0,_=>exact⟨a0,(h5 i 0 hi (by decide)).2.2⟩
     |1,_=>exact⟨a1,(h5 i 1 hi (by decide)).2.2⟩
     |2,_=>exact⟨a2,(h5 i 2 hi (by decide)).2.2⟩)
    obtain⟨q,n,c,he,hv⟩:=hz
    injection he with he
    injection he with u1 he
    injection he with u2 he
    injection he with u3 _
    exact⟨q,n,c,u1,u2,u3,hv⟩
   have hch: ∀ i,∃ z:Option Addr×Nat×Nat,i <l.length→cells i 0=.int .i64 (elemP l i).kind∧cells i 1=.int .i64 (elemP l i).num∧cells i 2=.slice z.1 z.2.1 z.2.2∧VR nb S0 w (.slice z.1 z.2.1 z.2.2) (sT (elemP l i).kids):=by
    intro i
    by_cases hi:i <l.length
    ·obtain⟨q,n,c,u⟩:=hget i hi
     exact⟨(q,n,c),fun _=>u⟩
    ·exact⟨(none,0,0),fun h=>absurd h hi⟩
   obtain⟨d0,hd0⟩: ∃ d0:Nat→Option Addr×Nat×Nat,∀ i,i <l.length→cells i 0=.int .i64 (elemP l i).kind∧cells i 1=.int .i64 (elemP l i).num∧cells i 2=.slice (d0 i).1 (d0 i).2.1 (d0 i).2.2∧VR nb S0 w (.slice (d0 i).1 (d0 i).2.1 (d0 i).2.2) (sT (elemP l i).kids):=
    ⟨fun i=>Classical.choose (hch i),fun i=>Classical.choose_spec (hch i)⟩
   have hmin: ∀ i,elemP l (min i (l.length-1))=elemP l i:=fun i=>by unfold elemP;rw[show min (min i (l.length-1)) (l.length-1)=min i (l.length-1) by omega]
   refine zm0 k l t ht hl (some ⟨b,o,none⟩) c (fun i=>d0 (min i (l.length-1))) q0 n0 k0 w S0 hS e2 (fun i _=>?_) (fun Wl Bs b3 b7 hB hBs g3 g7 hs n3 n7=>zs2 l _ b o c w Wl Bs b3 b7 (by omega) hpos hB (hS _ _ (h5 0 0 hpos (by decide)).1) (fun i hi=>?_) hBs g3 g7 hs n3 n7)
   ·have:=(hd0 (min i (l.length-1)) (by omega)).2.2.2
    rw[←hmin i]
    exact this
   ·have u:=hd0 i hi
    rw[show min i (l.length-1)=i by omega]
    exact⟨by rw[(h5 i 0 hi (by decide)).2.1,u.1],by rw[(h5 i 1 hi (by decide)).2.1,u.2.1],by rw[(h5 i 2 hi (by decide)).2.1,u.2.2.1]⟩
  ·exact hnil _ c (List.length_eq_zero_iff.1 (by omega)) (by rw[show l.length=0 by omega])
end Go.Proofs.YtokfbblhjpfjkaaGreat
namespace Go.Proofs.YtokfbblhjpfjkaaGreat
open Go.Aw Go.RowKit
attribute [local irreducible] WL AC WD WE MStep OkOp
theorem zrv(l:List Tm)(t:Tm)(hl:sizes l≤1048576)(ht:t.size≤1048576):FC Tryz.prog 238 [sT l,aT t] (aT (nestT 5 l t)):=by
 have h:=zq9 5 l t hl ht
 generalize nestT 5 l t=r at h⊢
 refine zo hty Tryz.func238 rfl rfl rfl fun w0=>?_
 repeat'(first|refine zv 0 rfl h rfl rfl rfl ?_|refine WL_p hty rfl rfl ?_|refine zh ?_|refine zi ?_|refine za ?_|refine zg ?_)
 exact zdC rfl rfl rfl
end Go.Proofs.YtokfbblhjpfjkaaGreat
namespace Go.Proofs.YtokfbblhjpfjkaaGreat
open Go.Aw Go.RowKit
def zBp:List (Nat×List Nat):=[(0,[]),(1,[]),(2,[1]),(3,[0,1,2]),(4,[0,1,2,3]),(5,[0,1,2,3,4])]
attribute [local irreducible] WL AC WD WE MStep OkOp
def zaR(f:Tm)(l:List Tm):Tm:=l.foldl (fun o a=>.mk 6 0 [o,a]) f
theorem zki(f:Tm)(l:List Tm)(hf:f.size≤1048576)(hl:sizes l≤1048576):FC Tryz.prog 211 [aT f,sT l] (aT (zaR f l)):=by
 have hlen:=zM l
 refine zo hty Tryz.func211 rfl rfl rfl fun w0=>?_
 repeat'(first|refine zv 0 rfl (zcV f hf) rfl rfl rfl ?_|refine WL_p hty rfl rfl ?_|refine zh ?_|refine zi ?_|refine za ?_|refine zf ?_)
 refine zW l.length (fun _=>True) (fun j=>⟨envOf [(4,.ptr 4 0),(5,.ptr 5 0),(10,sT l),(11,.int .i64 ((rsT l).length:Nat)),(12,.int .i64 (j:Nat))],bkOf [(4,.bx none [.int .i64 0,.int .i64 0,.lst 3 [] true]),(5,.bx none (cT (zaR f (l.take j))))]⟩)
  (zfY ⟨zz rfl rfl,zz rfl rfl,zz rfl rfl,zz rfl rfl,zz rfl rfl,trivial⟩ ⟨zw rfl rfl,zw rfl rfl,trivial⟩) trivial ?_
 intro j hj _
 repeat'(first|refine zi ?_|refine za ?_)
 refine zj rfl rfl rfl rfl (fun hc=>?_) (fun hc=>?_)
 ·have hlt:j <l.length:=by rw[zeb]at hc;omega
  obtain⟨k,hk,hmem⟩:=zA hlt
  have hks:=zK hmem
  have rk:=zac hk
  have hnd:FC Tryz.prog 124 [.int .i64 6,.lst 3 [cT (zaR f (l.take j)),cT k] true] (aT (.mk 6 0 [zaR f (l.take j),k])):=(zdZ 6 [zaR f (l.take j),k]).args (.cons (.refl _) (.cons (by rw[←rs2];exact .full _ _ _) .nil))
  generalize ho:zaR f (l.take j)=o at hnd⊢
  repeat'(first|refine zD (id:=5) zBp rfl (by kernel_rfl) ?_|refine zad 0 rfl (zcV k (by omega)) rfl rfl rfl ?_|refine zad 0 rfl hnd rfl rfl rfl ?_|refine zu (.inl ⟨rfl,zI hty rfl rfl⟩) ?_|refine zS ⟨by kernel_rfl,?_⟩|refine WL_p hty rfl rfl ?_|refine zh ?_|refine zi ?_|refine za ?_|refine zf ?_|refine zxg ?_|refine zd rfl ?_|refine WL_m rfl (zm hty rfl rfl rfl (by assumption) rfl) ?_)
  refine⟨hlt,trivial,(zfY ⟨zz rfl rfl,zz rfl rfl,zz rfl rfl,zz rfl rfl,⟨_,rfl,zO ?_ rfl⟩,trivial⟩ ⟨zw rfl rfl,⟨⟨_,rfl,.of_eq ?_⟩,rfl⟩,trivial⟩)⟩
  ·exact congrArg (AV.int .i64) ((zy (by omega) (by omega)).trans (by omega))
  ·rw[List.take_add_one,hk,Option.toList_some]
   simp only[zaR,List.foldl_append,List.foldl_cons,List.foldl_nil]
   rw[show List.foldl (fun o a=>Tm.mk 6 0 [o,a]) f (l.take j)=o from ho]
 ·obtain rfl:j=l.length:=by rw[zeb]at hc;omega
  rw[List.take_length]
  repeat'(first|refine WL_p hty rfl rfl ?_|refine zh ?_|refine zi ?_|refine za ?_|refine zbZ rfl ?_|refine zl ?_|refine zg ?_)
  exact zdC rfl rfl rfl
end Go.Proofs.YtokfbblhjpfjkaaGreat
namespace Go.Proofs.YtokfbblhjpfjkaaGreat
open Go.Aw Go.RowKit
attribute [local irreducible] WL AC WD WE MStep OkOp
theorem zsL(n:Int):FC Tryz.prog 239 [.int .i64 n] (aT (.mk 3 n [])):=by
 refine zo hty Tryz.func239 rfl rfl rfl fun w0=>?_
 repeat'(first|refine WL_p hty rfl rfl ?_|refine zh ?_|refine zi ?_|refine za ?_|refine zg ?_)
 exact zH rfl rfl (.agg (.cons (.refl _) (.cons (.refl _) (.cons (.nilF _ _ _) .nil))))
def zeg(ahead:List Tm):Int→List Tm→List Tm
 |_,[]=>[]
 |j,d::l=>(instT d ahead j).1::zeg ahead (j+1) l
def zf8(ahead:List Tm):Int→List Tm→Int→Int
 |_,[],m=>m
 |j,d::l,m=>zf8 ahead (j+1) l (zjx m (instT d ahead j).2)
theorem zlz(ahead:List Tm)(d:Tm): ∀ (l:List Tm) (j:Int),zeg ahead j (l++[d])=zeg ahead j l++[(instT d ahead (j+l.length)).1]
 |[],j=>by simp[zeg]
 |u::l,j=>by
  simp only[List.cons_append,zeg,zlz ahead d l,List.length_cons]
  rw[show j+1+(l.length:Int)=j+((l.length+1:Nat):Int) by omega]
theorem zk8(ahead:List Tm)(d:Tm): ∀ (l:List Tm) (j m:Int),zf8 ahead j (l++[d]) m=zjx (zf8 ahead j l m) (instT d ahead (j+l.length)).2
 |[],j,m=>by simp[zf8]
 |u::l,j,m=>by
  simp only[List.cons_append,zf8,zk8 ahead d l,List.length_cons]
  rw[show j+1+(l.length:Int)=j+((l.length+1:Nat):Int) by omega]
theorem zd4(ahead:List Tm): ∀ (l:List Tm) (j:Int),(zeg ahead j l).length=l.length
 |[],_=>rfl
 |u::l,j=>by simp only[zeg,List.length_cons,zd4]
theorem zqZ(ahead:List Tm){l:List Tm}{i:Nat}{d:Tm}(h:l[i]? =some d):zeg ahead 0 (l.take (i+1))=zeg ahead 0 (l.take i)++[(instT d ahead (i:Nat)).1]:=by
 have hlt:i <l.length:=(List.getElem?_eq_some_iff.1 h).1
 rw[List.take_add_one,h,Option.toList_some,zlz,List.length_take,Nat.min_eq_left (Nat.le_of_lt hlt),Int.zero_add]
theorem zri(ahead:List Tm)(m:Int){l:List Tm}{i:Nat}{d:Tm}(h:l[i]? =some d):zf8 ahead 0 (l.take (i+1)) m=zjx (zf8 ahead 0 (l.take i) m) (instT d ahead (i:Nat)).2:=by
 have hlt:i <l.length:=(List.getElem?_eq_some_iff.1 h).1
 rw[List.take_add_one,h,Option.toList_some,zk8,List.length_take,Nat.min_eq_left (Nat.le_of_lt hlt),Int.zero_add]
def zhU(ahead:List Tm)(r:Int)(l:List Tm):List Tm:=l.map fun x=>(instT x ahead r).1
def znT(ahead:List Tm)(r:Int)(l:List Tm)(m:Int):Int:=l.foldl (fun m x=>zjx m (instT x ahead r).2) m
theorem zrx(ahead:List Tm)(r:Int){l:List Tm}{i:Nat}{t:Tm}(h:l[i]? =some t):zhU ahead r (l.take (i+1))=zhU ahead r (l.take i)++[(instT t ahead r).1]:=by
 rw[List.take_add_one,h,Option.toList_some];simp[zhU]
theorem zrC(ahead:List Tm)(r:Int){l:List Tm}{i:Nat}{t:Tm}(h:l[i]? =some t)(m:Int):znT ahead r (l.take (i+1)) m=zjx (znT ahead r (l.take i) m) (instT t ahead r).2:=by
 rw[List.take_add_one,h,Option.toList_some];simp[znT]
theorem zfs(ahead:List Tm)(r:Int)(l:List Tm):(zhU ahead r l).length=l.length:=by simp[zhU]
def zc1(a:Ar)(motives methods ahead:List Tm)(t:Tm):List Tm:=
 zbe motives (a.dom.length:Nat)++zbe methods (a.dom.length:Nat)++zhU ahead (a.dom.length:Nat) a.idx++[zaR (zbs t (a.dom.length:Nat) 0).1 (zeq a.dom.length)]
def zfi(b:Bl)(base:Int)(a:Ar)(motives methods ahead:List Tm)(t:Tm):Tm:=
 nestT 5 (zeg ahead 0 a.dom) (zaR (.mk 3 (zaz b base a.sort) []) (zc1 a motives methods ahead t))
def zlB(a:Ar)(motives methods ahead:List Tm)(t:Tm)(m:Int):Int:=
 zjx (znT ahead (a.dom.length:Nat) a.idx (zbv methods (a.dom.length:Nat) (zbv motives (a.dom.length:Nat) (zf8 ahead 0 a.dom m)))) (zbs t (a.dom.length:Nat) 0).2
theorem zdd: ∀ (l:List Tm) (f:Tm),(zaR f l).size=f.size+sizes l+l.length
 |[],f=>by simp[zaR,sizes]
 |a::l,f=>by
  have:=zdd l (.mk 6 0 [f,a])
  simp only[zaR,List.foldl_cons]at this⊢
  rw[this]
  simp only[Tm.size,sizes,List.length_cons];omega
theorem ziZ(k:Int)(b:Tm): ∀ l:List Tm,(nestT k l b).size=b.size+sizes l+l.length
 |[]=>by simp[nestT,sizes]
 |a::l=>by
  have:=ziZ k b l
  simp only[nestT,List.foldr_cons]at this⊢
  simp only[Tm.size,sizes,this,List.length_cons];omega
theorem zfK(t:Tm)(by_ from_:Int):(zbs t by_ from_).1.size≤t.size:=by
 have hp:=t.size_pos
 have hz:zT.size=1:=rfl
 unfold zbs
 split
 ·show zT.size≤_;omega
 ·rename_i hc
  split
  ·show zT.size≤_;omega
  ·split
   ·show zT.size≤_;omega
   ·have hf:=zeD (t:=t) (by omega)
    refine Nat.le_of_eq (zh2 (shF by_ from_) (fun n b=>rfl) t 0 (fun hk=>?_) hf)
    have:=za9 t
    rw[hf,hk]at this
    have:=this.symm
    simp only[Bool.and_eq_true,decide_eq_true_eq,kidsR]at this
    have h1:=this.1.1
    simp at h1
    exact h1
theorem zeo(by_:Int): ∀ l:List Tm,sizes (zbe l by_)≤sizes l
 |[]=>by simp[zbe,sizes]
 |t::l=>by
  have h1:=zfK t by_ 0
  have h2:=zeo by_ l
  simp only[zbe,List.map_cons,sizes]at h2⊢
  omega
theorem zgy(ahead:List Tm): ∀ (l:List Tm) (j:Int),sizes (zeg ahead j l)≤6000*l.length
 |[],_=>by simp[zeg,sizes]
 |d::l,j=>by
  have h1:=zeB d ahead j
  have h2:=zgy ahead l (j+1)
  simp only[zeg,sizes,List.length_cons]
  omega
theorem ziV(ahead:List Tm)(r:Int): ∀ (l:List Tm),sizes (zhU ahead r l)≤6000*l.length
 |[]=>by simp[zhU,sizes]
 |d::l=>by
  have h1:=zeB d ahead r
  have h2:=ziV ahead r l
  simp only[zhU,List.map_cons,sizes,List.length_cons]at h2⊢
  omega
theorem zib(n:Nat):sizes (zeq n)=n:=by
 have: ∀ l:List Nat,sizes (l.map (ztA n))=l.length:=by
  intro l
  induction l with
  |nil=>rfl
  |cons a l ih=>simp only[List.map_cons,sizes,ih,List.length_cons];simp[ztA,Tm.size,sizes];omega
 unfold zeq
 rw[this,List.length_range]
theorem zg8(a:Ar)(motives methods ahead:List Tm)(t:Tm)(hd:a.dom.length≤12)(hi:a.idx.length≤12):sizes (zc1 a motives methods ahead t)≤sizes motives+sizes methods+t.size+72024:=by
 have h1:=zeo (a.dom.length:Nat) motives
 have h2:=zeo (a.dom.length:Nat) methods
 have h3:=ziV ahead (a.dom.length:Nat) a.idx
 have h4:=zfK t (a.dom.length:Nat) 0
 unfold zc1
 simp only[zax,sizes,zdd,zib,zeU]
 omega
theorem zgi(a:Ar)(motives methods ahead:List Tm)(t:Tm):(zc1 a motives methods ahead t).length=motives.length+methods.length+a.idx.length+1:=by
 simp only[zc1,List.length_append,zbA,zfs,List.length_cons,List.length_nil]
theorem znq(b:Bl)(base:Int)(a:Ar)(motives methods ahead:List Tm)(t:Tm)(hd:a.dom.length≤12)(hi:a.idx.length≤12):
 (zfi b base a motives methods ahead t).size≤2*sizes motives+2*sizes methods+t.size+144100:=by
 have h1:=zg8 a motives methods ahead t hd hi
 have h2:=zgi a motives methods ahead t
 have h3:=zgy ahead a.dom 0
 have h4:=zd4 ahead a.dom 0
 have h5:=zM motives
 have h6:=zM methods
 unfold zfi
 rw[ziZ,zdd]
 simp only[Tm.size,sizes]
 omega
set_option maxHeartbeats 8000000 in
theorem zpS(b:Bl)(base:Int)(a:Ar)(motives methods ahead:List Tm)(t:Tm)(m:Int)(hb:b.size≤1048576)(ha:a.size≤1048576)(h1:sizes motives≤100000)(h2:sizes methods≤100000)(h3:sizes ahead≤1048576)(h4:t.size≤100000)
 (n1:motives≠[]) (n2:methods≠[]) (hd:a.dom.length≤12) (hi:a.idx.length≤12):
 MC Tryz.prog 210 [.ptr 0 0,aB b,.int .i64 base,aA a,sT motives,sT methods,sT ahead,aT t] (.box [.int .i64 m]) (aT (zfi b base a motives methods ahead t)) (.box [.int .i64 (zlB a motives methods ahead t m)]):=by
 have hsz:a.size=a.typ.size+sizes a.dom+sizes a.idx:=rfl
 have hdl:(zeg ahead 0 a.dom).length=a.dom.length:=zd4 _ _ _
 refine zcK hty Tryz.func210 rfl rfl rfl rfl rfl fun w0 B=>?_
 repeat'(first|refine WL_p hty rfl rfl ?_|refine zh ?_|refine zi ?_|refine za ?_|refine zf ?_)
 refine zab (zcc 118 rfl) ?_
 refine zW a.dom.length (fun _=>True) (fun i=>⟨envOf [(0,.ptr 0 0),(2,.int .i64 base),(4,sT motives),(5,sT methods),(6,sT ahead),(9,.ptr 9 0),(11,.ptr 11 0),(15,.ptr 15 0),(16,.ptr 16 0),(17,.int .i64 ((rsT a.dom).length:Nat)),(18,grV 118 3 (rsT (zeg ahead 0 (a.dom.take i)))),(28,sT a.dom),(29,.int .i64 ((rsT a.dom).length:Nat)),(30,.int .i64 (i:Nat))],
  bkOf [(0,.bx (some B) [.int .i64 (zf8 ahead 0 (a.dom.take i) m)]),(9,.box (cB b)),(11,.box (cA a)),(15,.box (cT t)),(16,.box [.int .i64 0,.int .i64 0,.lst 3 [] true]),(118,grB 25 3 (rsT (zeg ahead 0 (a.dom.take i))))]⟩)
  (zfY ⟨zz rfl rfl,zz rfl rfl,zz rfl rfl,zz rfl rfl,zz rfl rfl,zz rfl rfl,zz rfl rfl,zz rfl rfl,zz rfl rfl,zz rfl rfl,⟨_,rfl,.inl ⟨.nil _ _ _,rfl⟩⟩,zz rfl rfl,zz rfl rfl,zz rfl rfl,trivial⟩ ⟨zw rfl rfl,zw rfl rfl,zw rfl rfl,zw rfl rfl,zw rfl rfl,zw rfl rfl,trivial⟩) trivial ?_
 intro i hi2 _
 repeat'(first|refine zi ?_|refine za ?_)
 refine zj rfl rfl rfl rfl (fun hc=>?_) (fun hc=>?_)
 ·have hlt:i <a.dom.length:=by rw[zeb]at hc;omega
  obtain⟨d,hdg,hmem⟩:=zA hlt
  have ra:=zac hdg
  have has:=zK hmem
  have g1:=zfW d ahead (i:Nat) (by omega) h3
  have g2:=zg4 (instT d ahead (i:Nat)).1 (zf8 ahead 0 (a.dom.take i) m) (instT d ahead (i:Nat)).2
  rw[←zri ahead m hdg]at g2
  have hnx:=zqZ ahead hdg
  generalize (instT d ahead (i:Nat)).1=u at g1 g2 hnx
  generalize (instT d ahead (i:Nat)).2=e at g1 g2
  repeat'(first|refine zv 0 rfl g1 rfl rfl rfl ?_|refine WL_m rfl (zcd 0 rfl rfl rfl g2 rfl rfl) ?_|refine WL_m rfl (zck hty 318 rfl rfl rfl rfl rfl rfl rfl (by simp only[zeb,zd4,List.length_take,List.length_cons,List.length_nil];omega) rfl rfl rfl) ?_|refine WL_p hty rfl rfl ?_|refine zh ?_|refine zi ?_|refine za ?_|refine zf ?_|refine zxg ?_|refine zd rfl ?_|refine WL_m rfl (zm hty rfl rfl rfl (by assumption) rfl) ?_)
  have hnx:rsT (zeg ahead 0 (a.dom.take (i+1)))=rsT (zeg ahead 0 (a.dom.take i))++[cT u]:=by rw[hnx,zas,rs1]
  refine⟨hlt,trivial,(zbf [(118,318)] rfl ⟨⟨_,rfl,.inl ⟨.refl _,rfl⟩⟩,⟨_,rfl,.inl ⟨.refl _,rfl⟩⟩,⟨_,rfl,.inl ⟨.refl _,rfl⟩⟩,⟨_,rfl,.inl ⟨.refl _,rfl⟩⟩,⟨_,rfl,.inl ⟨.refl _,rfl⟩⟩,⟨_,rfl,.inl ⟨.refl _,rfl⟩⟩,⟨_,rfl,.inl ⟨.refl _,rfl⟩⟩,⟨_,rfl,.inl ⟨.refl _,rfl⟩⟩,⟨_,rfl,.inl ⟨.refl _,rfl⟩⟩,⟨_,rfl,.inl ⟨.refl _,rfl⟩⟩,⟨_,rfl,.inl ⟨zgT rfl ?_,zc7 rfl⟩⟩,⟨_,rfl,.inl ⟨.refl _,rfl⟩⟩,⟨_,rfl,.inl ⟨.refl _,rfl⟩⟩,⟨_,rfl,zO ?_ rfl⟩,trivial⟩ ⟨⟨⟨_,rfl,.refl _⟩,rfl⟩,⟨⟨_,rfl,.refl _⟩,rfl⟩,⟨⟨_,rfl,.refl _⟩,rfl⟩,⟨⟨_,rfl,.refl _⟩,rfl⟩,⟨⟨_,rfl,.refl _⟩,rfl⟩,⟨⟨_,rfl,zdt ?_⟩,zbu⟩,trivial⟩)⟩
  ·exact hnx.symm
  ·exact congrArg (AV.int .i64) ((zy (by omega) (by omega)).trans (by omega))
  ·exact hnx.symm
 obtain rfl:i=a.dom.length:=by rw[zeb]at hc;omega
 rw[List.take_length]
 have s1:=zii motives ((rsT a.dom).length:Nat) (zf8 ahead 0 a.dom m) (by omega) n1
 have s2:=zii methods ((rsT a.dom).length:Nat) (zbv motives ((rsT a.dom).length:Nat) (zf8 ahead 0 a.dom m)) (by omega) n2
 have l1:=zM motives
 have l2:=zM methods
 have hr2:rsT (zbe methods ((rsT a.dom).length:Nat))≠[]:=by
  intro q
  have:=congrArg List.length q
  rw[zeb,zbA]at this
  exact n2 (List.length_eq_zero_iff.1 this)
 repeat'(first|(refine za8 (id:=8) ?_;refine zab (zlr 18 118 rfl rfl) ?_;refine za ?_)|refine WL_m rfl (zm1 0 150 rfl rfl rfl s1 rfl rfl rfl) ?_|refine WL_m rfl (zm1 0 154 rfl rfl rfl s2 rfl rfl rfl) ?_|refine WL_m rfl (zgH hty 121 rfl rfl rfl rfl rfl rfl rfl rfl hr2 (by simp only[zeb,zbA];omega) rfl rfl rfl) ?_|refine WL_p hty rfl rfl ?_|refine zh ?_|refine zi ?_|refine za ?_|refine zf ?_|refine zbZ rfl ?_|refine zl ?_)
 have i0: ∀ i,sizes (a.idx.take i)≤sizes a.idx:=fun i=>zb1 _ _
 generalize hR:rsT (zbe motives ((rsT a.dom).length:Nat))++rsT (zbe methods ((rsT a.dom).length:Nat))=R0
 have hRl:R0.length=motives.length+methods.length:=by simp only[←hR,List.length_append,zeb,zbA]
 refine zW a.idx.length (fun _=>True) (fun i=>⟨envOf [(0,.ptr 0 0),(2,.int .i64 base),(6,sT ahead),(9,.ptr 9 0),(11,.ptr 11 0),(15,.ptr 15 0),(16,.ptr 16 0),(17,.int .i64 ((rsT a.dom).length:Nat)),(18,sT (zeg ahead 0 a.dom)),(21,.arr 121),(57,sT a.idx),(58,.int .i64 ((rsT a.idx).length:Nat)),(59,.int .i64 (i:Nat))],
  bkOf [(0,.bx (some B) [.int .i64 (znT ahead ((rsT a.dom).length:Nat) (a.idx.take i) (zbv methods ((rsT a.dom).length:Nat) (zbv motives ((rsT a.dom).length:Nat) (zf8 ahead 0 a.dom m))))]),(9,.box (cB b)),(11,.box (cA a)),(15,.box (cT t)),(16,.box [.int .i64 0,.int .i64 0,.lst 3 [] true]),(121,.arr 25 3 (R0++rsT (zhU ahead ((rsT a.dom).length:Nat) (a.idx.take i))) true)]⟩)
  (zfY ⟨zz rfl rfl,zz rfl rfl,zz rfl rfl,zz rfl rfl,zz rfl rfl,zz rfl rfl,zz rfl rfl,zz rfl rfl,zz rfl rfl,zz rfl rfl,zz rfl rfl,zz rfl rfl,zz rfl rfl,trivial⟩ ⟨zw rfl rfl,zw rfl rfl,zw rfl rfl,zw rfl rfl,zw rfl rfl,⟨⟨_,rfl,.of_eq ?_⟩,rfl⟩,trivial⟩) trivial ?_
 ·exact congrArg (fun r=>AB.arr 25 3 r true) (List.append_nil _).symm
 intro i hi2 _
 repeat'(first|refine zi ?_|refine za ?_)
 refine zj rfl rfl rfl rfl (fun hc=>?_) (fun hc=>?_)
 ·have hlt:i <a.idx.length:=by rw[zeb]at hc;omega
  obtain⟨d,hdg,hmem⟩:=zA hlt
  have ra:=zac hdg
  have has:=zK hmem
  have g1:=zfW d ahead ((rsT a.dom).length:Nat) (by omega) h3
  have g2:=zg4 (instT d ahead ((rsT a.dom).length:Nat)).1 (znT ahead ((rsT a.dom).length:Nat) (a.idx.take i) (zbv methods ((rsT a.dom).length:Nat) (zbv motives ((rsT a.dom).length:Nat) (zf8 ahead 0 a.dom m)))) (instT d ahead ((rsT a.dom).length:Nat)).2
  rw[←zrC ahead ((rsT a.dom).length:Nat) hdg]at g2
  have hnx:=zrx ahead ((rsT a.dom).length:Nat) hdg
  generalize (instT d ahead ((rsT a.dom).length:Nat)).1=u at g1 g2 hnx
  generalize (instT d ahead ((rsT a.dom).length:Nat)).2=e at g1 g2
  repeat'(first|refine zv 0 rfl g1 rfl rfl rfl ?_|refine WL_m rfl (zcd 0 rfl rfl rfl g2 rfl rfl) ?_|refine WL_m rfl (zgH hty 321 rfl rfl rfl rfl rfl rfl rfl rfl (List.cons_ne_nil _ _) (by simp only[zeb,zfs,List.length_take,List.length_append,List.length_cons,List.length_nil];omega) rfl rfl rfl) ?_|refine WL_p hty rfl rfl ?_|refine zh ?_|refine zi ?_|refine za ?_|refine zf ?_|refine zxg ?_|refine zd rfl ?_|refine WL_m rfl (zm hty rfl rfl rfl (by assumption) rfl) ?_)
  have hnx:rsT (zhU ahead ((rsT a.dom).length:Nat) (a.idx.take (i+1)))=rsT (zhU ahead ((rsT a.dom).length:Nat) (a.idx.take i))++[cT u]:=by rw[hnx,zas,rs1]
  refine⟨hlt,trivial,(zbf [(121,321)] rfl ⟨⟨_,rfl,.inl ⟨.refl _,rfl⟩⟩,⟨_,rfl,.inl ⟨.refl _,rfl⟩⟩,⟨_,rfl,.inl ⟨.refl _,rfl⟩⟩,⟨_,rfl,.inl ⟨.refl _,rfl⟩⟩,⟨_,rfl,.inl ⟨.refl _,rfl⟩⟩,⟨_,rfl,.inl ⟨.refl _,rfl⟩⟩,⟨_,rfl,.inl ⟨.refl _,rfl⟩⟩,⟨_,rfl,.inl ⟨.refl _,rfl⟩⟩,⟨_,rfl,.inl ⟨.refl _,rfl⟩⟩,⟨_,rfl,.inl ⟨.refl _,rfl⟩⟩,⟨_,rfl,.inl ⟨.refl _,rfl⟩⟩,⟨_,rfl,.inl ⟨.refl _,rfl⟩⟩,⟨_,rfl,zO ?_ rfl⟩,trivial⟩ ⟨⟨⟨_,rfl,.refl _⟩,rfl⟩,⟨⟨_,rfl,.refl _⟩,rfl⟩,⟨⟨_,rfl,.refl _⟩,rfl⟩,⟨⟨_,rfl,.refl _⟩,rfl⟩,⟨⟨_,rfl,.refl _⟩,rfl⟩,⟨⟨_,rfl,.of_eq ?_⟩,rfl⟩,trivial⟩)⟩
  ·exact congrArg (AV.int .i64) ((zy (by omega) (by omega)).trans (by omega))
  ·rw[hnx, ←List.append_assoc];rfl
 obtain rfl:i=a.idx.length:=by rw[zeb]at hc;omega
 rw[List.take_length]
 have q1:=zjN t ((rsT a.dom).length:Nat) 0 (by omega)
 have q2:=zg4 (zbs t ((rsT a.dom).length:Nat) 0).1 (znT ahead ((rsT a.dom).length:Nat) a.idx (zbv methods ((rsT a.dom).length:Nat) (zbv motives ((rsT a.dom).length:Nat) (zf8 ahead 0 a.dom m)))) (zbs t ((rsT a.dom).length:Nat) 0).2
 have q3:=zro (rsT a.dom).length (by rw[zeb];omega)
 have zs:=zfK t ((rsT a.dom).length:Nat) 0
 have q4:=zki (zbs t ((rsT a.dom).length:Nat) 0).1 (zeq (rsT a.dom).length) (by omega) (by rw[zib,zeb];omega)
 have q5:=zdo b base a.sort hb
 have q6:=zsL (zaz b base a.sort)
 have hL:R0++rsT (zhU ahead ((rsT a.dom).length:Nat) a.idx)++[cT (zaR (zbs t ((rsT a.dom).length:Nat) 0).1 (zeq (rsT a.dom).length))]=rsT (zc1 a motives methods ahead t):=by
  rw[←hR];unfold zc1
  rw[zas,zas,zas,rs1,zeb]
 have z1:=zg8 a motives methods ahead t hd hi
 have z2:=zgi a motives methods ahead t
 have z3:=zgy ahead a.dom 0
 have q7:=zki (.mk 3 (zaz b base a.sort) []) (zc1 a motives methods ahead t) (by simp[Tm.size,sizes]) (by omega)
 have q8:=zrv (zeg ahead 0 a.dom) (zaR (.mk 3 (zaz b base a.sort) []) (zc1 a motives methods ahead t)) (by omega) (by rw[zdd];simp only[Tm.size,sizes];omega)
 have hE:zjx (znT ahead ((rsT a.dom).length:Nat) a.idx (zbv methods ((rsT a.dom).length:Nat) (zbv motives ((rsT a.dom).length:Nat) (zf8 ahead 0 a.dom m)))) (zbs t ((rsT a.dom).length:Nat) 0).2=zlB a motives methods ahead t m:=by
  unfold zlB;rw[zeb]
 rw[hE]at q2
 have hT:nestT 5 (zeg ahead 0 a.dom) (zaR (.mk 3 (zaz b base a.sort) []) (zc1 a motives methods ahead t))=zfi b base a motives methods ahead t:=rfl
 rw[hT]at q8
 replace q7:FC Tryz.prog 211 [aT (.mk 3 (zaz b base a.sort) []),.lst 3 (rsT (zc1 a motives methods ahead t)) false] (aT (zaR (.mk 3 (zaz b base a.sort) []) (zc1 a motives methods ahead t))):=q7
 rw[←hL]at q7
 generalize zaR (.mk 3 (zaz b base a.sort) []) (zc1 a motives methods ahead t)=w3 at q7 q8
 generalize zfi b base a motives methods ahead t=w4 at q8⊢
 generalize zaR (zbs t ((rsT a.dom).length:Nat) 0).1 (zeq (rsT a.dom).length)=w2 at q4 q7
 generalize (zbs t ((rsT a.dom).length:Nat) 0).1=w1 at q1 q2 q4
 repeat'(first|refine zv 0 rfl q1 rfl rfl rfl ?_|refine WL_m rfl (zcd 0 rfl rfl rfl q2 rfl rfl) ?_|refine zv 0 rfl q3 rfl rfl rfl ?_|refine zv 0 rfl q4 rfl rfl rfl ?_|refine WL_m rfl (zgH hty 321 rfl rfl rfl rfl rfl rfl rfl rfl (List.cons_ne_nil _ _) (by simp only[zeb,zfs,List.length_append,List.length_cons,List.length_nil];omega) rfl rfl rfl) ?_|(refine za8 (id:=15) ?_;refine zab (zaF 321 rfl) ?_;refine za ?_)|refine zv 0 rfl q5 rfl rfl rfl ?_|refine zv 0 rfl q6 rfl rfl rfl ?_|refine zv 0 rfl q7 rfl rfl rfl ?_|refine zv 0 rfl q8 rfl rfl rfl ?_|refine WL_p hty rfl rfl ?_|refine zh ?_|refine zi ?_|refine za ?_|refine zbZ rfl ?_|refine zl ?_|refine zg ?_)
 exact zdL 0 rfl rfl rfl rfl rfl rfl (.refl _)
end Go.Proofs.YtokfbblhjpfjkaaGreat
namespace Go.Proofs.YtokfbblhjpfjkaaGreat
open Go.Aw Go.RowKit
def zBP:List (Nat×List Nat):=[(0,[]),(1,[]),(2,[1]),(3,[0,1,2]),(4,[0,1,2,3]),(5,[0,1,2,3,4])]
def zAe:List (Nat×List Nat):=[(0,[100021]),(1,[]),(2,[]),(3,[]),(4,[]),(5,[]),(6,[]),(7,[]),(8,[]),(9,[7,8]),(10,[]),(11,[]),(12,[10,11]),(13,[10,11,12]),(14,[1,2,3,4,5,6,7,8,9,10,11,12,13]),(15,[1,2,3,4,5,6,7,8,9,10,11,12,13,14]),(16,[0,1,2,3,4,5,6,7,8,9,10,11,12,13,14,15]),(17,[0,1,2,3,4,5,6,7,8,9,10,11,12,13,14,15,16])]
def zwt:List (Nat×List Nat):=[(0,[]),(1,[100012]),(2,[1,100012]),(3,[1,2,100012]),(4,[1,2,3,100012]),(5,[0]),(6,[0,1,2,3,4,5])]
attribute [local irreducible] WL AC WD WE MStep OkOp
def mk1(b:Bl)(base:Int)(motives methods args:List Tm)(i:Nat)(a:Ar)(s:List Tm×Int):List Tm×Int:=
 if a.rc=true∧s.2=0 then(s.1++[args.getD i zT]++[zfi b base a motives methods (args.take i) (args.getD i zT)],zlB a motives methods (args.take i) (args.getD i zT) s.2)
 else(s.1++[args.getD i zT],s.2)
def mkL(b:Bl)(base:Int)(motives methods args:List Tm):Nat→List Ar→List Tm×Int→List Tm×Int
 |_,[],s=>s
 |i,a::l,s=>mkL b base motives methods args (i+1) l (mk1 b base motives methods args i a s)
theorem zm4(b:Bl)(base:Int)(motives methods args:List Tm)(a:Ar): ∀ (l:List Ar) (i:Nat) (s:List Tm×Int),mkL b base motives methods args i (l++[a]) s=mk1 b base motives methods args (i+l.length) a (mkL b base motives methods args i l s)
 |[],i,s=>by simp[mkL]
 |u::l,i,s=>by
  simp only[List.cons_append,mkL,zm4 b base motives methods args a l,List.length_cons]
  rw[show i+1+l.length=i+(l.length+1) by omega]
theorem zs7(b:Bl)(base:Int)(motives methods args:List Tm){l:List Ar}{i:Nat}{a:Ar}(h:l[i]? =some a)(s:List Tm×Int):mkL b base motives methods args 0 (l.take (i+1)) s=mk1 b base motives methods args i a (mkL b base motives methods args 0 (l.take i) s):=by
 have hlt:i <l.length:=(List.getElem?_eq_some_iff.1 h).1
 rw[List.take_add_one,h,Option.toList_some,zm4,List.length_take,Nat.min_eq_left (Nat.le_of_lt hlt),Nat.zero_add]
theorem zja(b:Bl)(base:Int)(motives methods args:List Tm)(h1:sizes motives≤6000)(h2:sizes methods≤6000)(h3:sizes args≤6000): ∀ (l:List Ar) (i:Nat) (s:List Tm×Int),(∀ a,a∈l→a.dom.length≤12∧a.idx.length≤12)→
 sizes (mkL b base motives methods args i l s).1≤sizes s.1+180200*l.length∧(mkL b base motives methods args i l s).1.length≤s.1.length+2*l.length∧ ∀ t,t∈(mkL b base motives methods args i l s).1→t∈s.1∨t.size≤180000
 |[],i,s,_=>⟨by simp[mkL],by simp[mkL],fun t h=>.inl h⟩
 |a::l,i,s,h=>by
  obtain⟨q1,q2,q3⟩:=zja b base motives methods args h1 h2 h3 l (i+1) (mk1 b base motives methods args i a s) (fun x hx=>h x (List.mem_cons_of_mem _ hx))
  have hx:(args.getD i zT).size≤6001:=by
   rw[List.getD_eq_getElem?_getD]
   cases q:args[i]? with
   |none=>simp[zT,Tm.size,sizes]
   |some x=>have:=zK (List.mem_of_getElem? q);simp;omega
  obtain⟨hd,hi⟩:=h a List.mem_cons_self
  have hin:=znq b base a motives methods (args.take i) (args.getD i zT) hd hi
  have hm:sizes (mk1 b base motives methods args i a s).1≤sizes s.1+180200∧(mk1 b base motives methods args i a s).1.length≤s.1.length+2∧ ∀ t,t∈(mk1 b base motives methods args i a s).1→t∈s.1∨t.size≤180000:=by
   unfold mk1
   split
   ·refine⟨by simp only[zax,sizes];omega,by simp,fun t ht=>?_⟩
    simp only[List.mem_append,List.mem_singleton]at ht
    rcases ht with(ht|rfl)|rfl
    ·exact .inl ht
    ·exact .inr (by omega)
    ·exact .inr (by omega)
   ·refine⟨by simp only[zax,sizes];omega,by simp,fun t ht=>?_⟩
    simp only[List.mem_append,List.mem_singleton]at ht
    rcases ht with ht|rfl
    ·exact .inl ht
    ·exact .inr (by omega)
  simp only[mkL,List.length_cons]
  refine⟨by omega,by omega,fun t ht=>?_⟩
  rcases q3 t ht with q|q
  ·exact hm.2.2 t q
  ·exact .inr q
def makeT(b:Bl)(base:Int)(co:Cn)(m:Tm)(motives methods args:List Tm):Tm×Int:=
 if(mkL b base motives methods args 0 co.args ([],0)).2≠0 then(zT,(mkL b base motives methods args 0 co.args ([],0)).2)else
 if checkT (zaR m (mkL b base motives methods args 0 co.args ([],0)).1)≠0 then(zT,checkT (zaR m (mkL b base motives methods args 0 co.args ([],0)).1))else(zaR m (mkL b base motives methods args 0 co.args ([],0)).1,0)
theorem zuw(f:Tm)(l:List Tm)(hf:f.size≤1048576)(hlen:l.length≤1048576)(hl: ∀ a,a∈l→a.size≤1048576):FC Tryz.prog 211 [aT f,sT l] (aT (zaR f l)):=by
 refine zo hty Tryz.func211 rfl rfl rfl fun w0=>?_
 repeat'(first|refine zv 0 rfl (zcV f hf) rfl rfl rfl ?_|refine WL_p hty rfl rfl ?_|refine zh ?_|refine zi ?_|refine za ?_|refine zf ?_)
 refine zW l.length (fun _=>True) (fun j=>⟨envOf [(4,.ptr 4 0),(5,.ptr 5 0),(10,sT l),(11,.int .i64 ((rsT l).length:Nat)),(12,.int .i64 (j:Nat))],bkOf [(4,.bx none [.int .i64 0,.int .i64 0,.lst 3 [] true]),(5,.bx none (cT (zaR f (l.take j))))]⟩)
  (zfY ⟨zz rfl rfl,zz rfl rfl,zz rfl rfl,zz rfl rfl,zz rfl rfl,trivial⟩ ⟨zw rfl rfl,zw rfl rfl,trivial⟩) trivial ?_
 intro j hj _
 repeat'(first|refine zi ?_|refine za ?_)
 refine zj rfl rfl rfl rfl (fun hc=>?_) (fun hc=>?_)
 ·have hlt:j <l.length:=by rw[zeb]at hc;omega
  obtain⟨k,hk,hmem⟩:=zA hlt
  have rk:=zac hk
  have hnd:FC Tryz.prog 124 [.int .i64 6,.lst 3 [cT (zaR f (l.take j)),cT k] true] (aT (.mk 6 0 [zaR f (l.take j),k])):=(zdZ 6 [zaR f (l.take j),k]).args (.cons (.refl _) (.cons (by rw[←rs2];exact .full _ _ _) .nil))
  generalize ho:zaR f (l.take j)=o at hnd⊢
  repeat'(first|refine zD (id:=5) zBP rfl (by kernel_rfl) ?_|refine zad 0 rfl (zcV k (hl k hmem)) rfl rfl rfl ?_|refine zad 0 rfl hnd rfl rfl rfl ?_|refine zu (.inl ⟨rfl,zI hty rfl rfl⟩) ?_|refine zS ⟨by kernel_rfl,?_⟩|refine WL_p hty rfl rfl ?_|refine zh ?_|refine zi ?_|refine za ?_|refine zf ?_|refine zxg ?_|refine zd rfl ?_|refine WL_m rfl (zm hty rfl rfl rfl (by assumption) rfl) ?_)
  refine⟨hlt,trivial,(zfY ⟨zz rfl rfl,zz rfl rfl,zz rfl rfl,zz rfl rfl,⟨_,rfl,zO ?_ rfl⟩,trivial⟩ ⟨zw rfl rfl,⟨⟨_,rfl,.of_eq ?_⟩,rfl⟩,trivial⟩)⟩
  ·exact congrArg (AV.int .i64) ((zy (by omega) (by omega)).trans (by omega))
  ·rw[List.take_add_one,hk,Option.toList_some]
   simp only[zaR,List.foldl_append,List.foldl_cons,List.foldl_nil]
   rw[show List.foldl (fun o a=>Tm.mk 6 0 [o,a]) f (l.take j)=o from ho]
 ·obtain rfl:j=l.length:=by rw[zeb]at hc;omega
  rw[List.take_length]
  repeat'(first|refine WL_p hty rfl rfl ?_|refine zh ?_|refine zi ?_|refine za ?_|refine zbZ rfl ?_|refine zl ?_|refine zg ?_)
  exact zdC rfl rfl rfl
set_option maxHeartbeats 8000000 in
theorem zrz(b:Bl)(base:Int)(c:Nat)(co:Cn)(mt:Tm)(motives methods args:List Tm)(hb:b.size≤1048576)(hco:b.cons[c]? =some co)(hmt:methods[c]? =some mt)(h1:sizes motives≤6000)(h2:sizes methods≤6000)(h3:sizes args≤6000)
 (n1:motives≠[]) (hal:args.length=co.args.length) (hl:co.args.length≤12) (hd: ∀ a,a∈co.args→a.dom.length≤12∧a.idx.length≤12):
 FC Tryz.prog 166 [aB b,.int .i64 base,.int .i64 (c:Nat),sT motives,sT methods,sT args] (.tup [aT (makeT b base co mt motives methods args).1,.int .i64 (makeT b base co mt motives methods args).2]):=by
 have n2:methods≠[]:=fun q=>by rw[q]at hmt;simp at hmt
 have rc:=zby hco
 have rm:=zac hmt
 have hmz:=zK (List.mem_of_getElem? hmt)
 have hcz:=zaB (List.mem_of_getElem? hco)
 have hcz2:co.size=zaH co.args+sizes co.idx+co.dec.size:=rfl
 have hbz:b.size=zbh b.sorts+zbg b.cons:=rfl
 refine zo hty Tryz.func166 rfl rfl rfl fun w0=>?_
 repeat'(first|refine WL_m rfl (zm hty rfl rfl rfl rc rfl) ?_|refine WL_p hty rfl rfl ?_|refine zh ?_|refine zi ?_|refine za ?_|refine zf ?_)
 refine zab (zcc 115 rfl) ?_
 refine zW co.args.length (fun _=>True) (fun i=>⟨envOf [(1,.int .i64 base),(2,.int .i64 (c:Nat)),(3,sT motives),(4,sT methods),(5,sT args),(6,.ptr 6 0),(12,.ptr 12 0),(14,.ptr 21 0),(15,grV 115 3 (rsT (mkL b base motives methods args 0 (co.args.take i) ([],0)).1)),(27,sA co.args),(28,.int .i64 ((zX co.args).length:Nat)),(29,.int .i64 (i:Nat))],
  bkOf [(6,.box (cB b)),(12,.box [.int .i64 0,.int .i64 0,.lst 3 [] true]),(21,.box [.int .i64 (mkL b base motives methods args 0 (co.args.take i) ([],0)).2]),(115,grB 25 3 (rsT (mkL b base motives methods args 0 (co.args.take i) ([],0)).1))]⟩)
  (zfY ⟨zz rfl rfl,zz rfl rfl,zz rfl rfl,zz rfl rfl,zz rfl rfl,zz rfl rfl,zz rfl rfl,zz rfl rfl,⟨_,rfl,.inl ⟨.nil _ _ _,rfl⟩⟩,zz rfl rfl,zz rfl rfl,zz rfl rfl,trivial⟩ ⟨zw rfl rfl,zw rfl rfl,zw rfl rfl,zw rfl rfl,trivial⟩) trivial ?_
 intro i hi _
 repeat'(first|refine zi ?_|refine za ?_)
 refine zj rfl rfl rfl rfl (fun hc=>?_) (fun hc=>?_)
 ·have hlt:i <co.args.length:=by rw[zN]at hc;omega
  obtain⟨a,hag,hmem⟩:=zA hlt
  have ra:=za6 hag
  have haz:=zaM hmem
  obtain⟨x,hx,hxm⟩:=zA (show i <args.length by omega)
  have rx:=zac hx
  have hxz:=zK hxm
  have hgd:args.getD i zT=x:=by rw[List.getD_eq_getElem?_getD,hx];rfl
  obtain⟨d1,d2⟩:=hd a hmem
  have hst:=zb1 args i
  have hnx:=zs7 b base motives methods args hag ([],0)
  have hll:=(zja b base motives methods args h1 h2 h3 (co.args.take i) 0 ([],0) (fun a ha=>hd a (List.mem_of_mem_take ha))).2.1
  rw[List.length_take]at hll
  simp only[List.length_nil]at hll
  generalize mkL b base motives methods args 0 (co.args.take i) ([],0)=s at hnx hll⊢
  obtain⟨L,m⟩:=s
  simp only at hll⊢
  have hinn:=zpS b base a motives methods (args.take i) x m hb (by omega) (by omega) (by omega) (by omega) (by omega) n1 n2 d1 d2
  unfold mk1 at hnx
  rw[hgd]at hnx
  simp only at hnx
  rw[show(sT (args.take i):AV)=.lst 3 (((rsT args).take i).drop 0) false by rw[List.drop_zero];unfold sT;rw[zbq,zbq,List.map_take]]at hinn
  obtain⟨arc,typ,dom,sort,idx⟩:=a
  simp only at hnx
  cases arc
  all_goals
   repeat'(first|refine WL_m rfl (zck hty 215 rfl rfl rfl rfl rfl rfl rfl (by simp only[zeb,List.length_cons,List.length_nil];omega) rfl rfl rfl) ?_|(refine za8 (id:=8) ?_;refine zD (id:=8) zAe rfl (by kernel_rfl) ?_)|refine zbc rfl (zbO hty 0 i rfl rfl rfl ⟨_,_,rfl,rfl⟩ (Nat.zero_le _) (by rw[zeb];omega) rfl) ?_|refine zbc rfl (zcd 21 rfl rfl rfl hinn rfl rfl) ?_|refine zbc rfl (zck hty 315 rfl rfl rfl rfl rfl rfl rfl (by simp only[zeb,List.length_append,List.length_cons,List.length_nil];omega) rfl rfl rfl) ?_|refine zu (.inl ⟨rfl,zI hty rfl rfl⟩) ?_|refine zu (.inl ⟨rfl,zm hty rfl rfl rfl (by assumption) rfl⟩) ?_|refine zS ⟨by kernel_rfl,?_⟩|refine WL_p hty rfl rfl ?_|refine zh ?_|refine zi ?_|refine za ?_|refine zf ?_|refine zxg ?_|refine zd rfl ?_|refine zbZ rfl ?_|refine zx rfl rfl ?_|refine zq rfl rfl rfl ?_|refine WL_m rfl (zm hty rfl rfl rfl (by assumption) rfl) ?_|refine zj rfl rfl rfl rfl (fun _=>?_) (fun _=>?_))
  ·rw[if_neg (by simp)]at hnx
   rw[hnx]
   have hr:rsT (L++[x])=rsT L++[cT x]:=by rw[zas,rs1]
   refine⟨hlt,trivial,(zbf [(115,215)] rfl ⟨⟨_,rfl,.inl ⟨.refl _,rfl⟩⟩,⟨_,rfl,.inl ⟨.refl _,rfl⟩⟩,⟨_,rfl,.inl ⟨.refl _,rfl⟩⟩,⟨_,rfl,.inl ⟨.refl _,rfl⟩⟩,⟨_,rfl,.inl ⟨.refl _,rfl⟩⟩,⟨_,rfl,.inl ⟨.refl _,rfl⟩⟩,⟨_,rfl,.inl ⟨.refl _,rfl⟩⟩,⟨_,rfl,.inl ⟨.refl _,rfl⟩⟩,⟨_,rfl,.inl ⟨zgT rfl ?_,zc7 rfl⟩⟩,⟨_,rfl,.inl ⟨.refl _,rfl⟩⟩,⟨_,rfl,.inl ⟨.refl _,rfl⟩⟩,⟨_,rfl,zO ?_ rfl⟩,trivial⟩ ⟨⟨⟨_,rfl,.refl _⟩,rfl⟩,⟨⟨_,rfl,.refl _⟩,rfl⟩,⟨⟨_,rfl,.refl _⟩,rfl⟩,⟨⟨_,rfl,zdt ?_⟩,zbu⟩,trivial⟩)⟩
   ·exact hr.symm
   ·exact congrArg (AV.int .i64) ((zy (by omega) (by omega)).trans (by omega))
   ·exact hr.symm
  ·rename_i hm
   rw[if_pos ⟨rfl,hm⟩]at hnx
   rw[hnx]
   have hr:rsT (L++[x]++[zfi b base ⟨true,typ,dom,sort,idx⟩ motives methods (args.take i) x])=rsT L++[cT x]++[cT (zfi b base ⟨true,typ,dom,sort,idx⟩ motives methods (args.take i) x)]:=by rw[zas,zas,rs1,rs1]
   refine⟨hlt,trivial,(zbf [(115,315)] rfl ⟨⟨_,rfl,.inl ⟨.refl _,rfl⟩⟩,⟨_,rfl,.inl ⟨.refl _,rfl⟩⟩,⟨_,rfl,.inl ⟨.refl _,rfl⟩⟩,⟨_,rfl,.inl ⟨.refl _,rfl⟩⟩,⟨_,rfl,.inl ⟨.refl _,rfl⟩⟩,⟨_,rfl,.inl ⟨.refl _,rfl⟩⟩,⟨_,rfl,.inl ⟨.refl _,rfl⟩⟩,⟨_,rfl,.inl ⟨.refl _,rfl⟩⟩,⟨_,rfl,.inl ⟨zgT rfl ?_,zc7 rfl⟩⟩,⟨_,rfl,.inl ⟨.refl _,rfl⟩⟩,⟨_,rfl,.inl ⟨.refl _,rfl⟩⟩,⟨_,rfl,zO ?_ rfl⟩,trivial⟩ ⟨⟨⟨_,rfl,.refl _⟩,rfl⟩,⟨⟨_,rfl,.refl _⟩,rfl⟩,⟨⟨_,rfl,.refl _⟩,rfl⟩,⟨⟨_,rfl,zdt ?_⟩,zbu⟩,trivial⟩)⟩
   ·exact hr.symm
   ·exact congrArg (AV.int .i64) ((zy (by omega) (by omega)).trans (by omega))
   ·exact hr.symm
  ·rename_i hm
   rw[if_neg (fun q=>hm q.2)]at hnx
   rw[hnx]
   have hr:rsT (L++[x])=rsT L++[cT x]:=by rw[zas,rs1]
   refine⟨hlt,trivial,(zbf [(115,215)] rfl ⟨⟨_,rfl,.inl ⟨.refl _,rfl⟩⟩,⟨_,rfl,.inl ⟨.refl _,rfl⟩⟩,⟨_,rfl,.inl ⟨.refl _,rfl⟩⟩,⟨_,rfl,.inl ⟨.refl _,rfl⟩⟩,⟨_,rfl,.inl ⟨.refl _,rfl⟩⟩,⟨_,rfl,.inl ⟨.refl _,rfl⟩⟩,⟨_,rfl,.inl ⟨.refl _,rfl⟩⟩,⟨_,rfl,.inl ⟨.refl _,rfl⟩⟩,⟨_,rfl,.inl ⟨zgT rfl ?_,zc7 rfl⟩⟩,⟨_,rfl,.inl ⟨.refl _,rfl⟩⟩,⟨_,rfl,.inl ⟨.refl _,rfl⟩⟩,⟨_,rfl,zO ?_ rfl⟩,trivial⟩ ⟨⟨⟨_,rfl,.refl _⟩,rfl⟩,⟨⟨_,rfl,.refl _⟩,rfl⟩,⟨⟨_,rfl,.refl _⟩,rfl⟩,⟨⟨_,rfl,zdt ?_⟩,zbu⟩,trivial⟩)⟩
   ·exact hr.symm
   ·exact congrArg (AV.int .i64) ((zy (by omega) (by omega)).trans (by omega))
   ·exact hr.symm
 obtain rfl:i=co.args.length:=by rw[zN]at hc;omega
 rw[List.take_length]
 obtain⟨z1,z2,z3⟩:=zja b base motives methods args h1 h2 h3 co.args 0 ([],0) hd
 have hmk:makeT b base co mt motives methods args=if(mkL b base motives methods args 0 co.args ([],0)).2≠0 then(zT,(mkL b base motives methods args 0 co.args ([],0)).2)else
  if checkT (zaR mt (mkL b base motives methods args 0 co.args ([],0)).1)≠0 then(zT,checkT (zaR mt (mkL b base motives methods args 0 co.args ([],0)).1))else(zaR mt (mkL b base motives methods args 0 co.args ([],0)).1,0):=rfl
 generalize makeT b base co mt motives methods args=res at hmk⊢
 generalize mkL b base motives methods args 0 co.args ([],0)=s at z1 z2 z3 hmk⊢
 obtain⟨L,m⟩:=s
 simp only[sizes,List.length_nil]at z1 z2 z3 hmk⊢
 have q1:=zuw mt L (by omega) (by omega) (fun a ha=>(z3 a ha).elim (fun q=>by simp at q) (fun q=>by omega))
 have zs:=zdd L mt
 have q2:=zl2 (zaR mt L) (by omega)
 generalize zaR mt L=u at q1 q2 hmk
 repeat'(first|(refine za8 (id:=11) ?_;refine zab (zfY (l:=[(12,_),(14,_)]) (bl:=[(12,_),(21,_)]) ⟨zz rfl rfl,zz rfl rfl,trivial⟩ ⟨zw rfl rfl,zw rfl rfl,trivial⟩) ?_;refine zD (id:=11) zwt rfl (by kernel_rfl) ?_)|(refine za8 (id:=12) ?_;refine zab (zlr 15 115 rfl rfl) ?_;refine za ?_)|refine WL_m rfl (zm hty rfl rfl rfl rm rfl) ?_|refine zv 0 rfl q1 rfl rfl rfl ?_|refine zv 0 rfl q2 rfl rfl rfl ?_|refine zu (.inl ⟨rfl,zI hty rfl rfl⟩) ?_|refine zS ⟨by kernel_rfl,?_⟩|refine WL_p hty rfl rfl ?_|refine zh ?_|refine zi ?_|refine za ?_|refine zxg ?_|refine zd rfl ?_|refine zbZ rfl ?_|refine zl ?_|refine zg ?_|refine zj rfl rfl rfl rfl (fun _=>?_) (fun _=>?_))
 ·rw[hmk,if_pos (by assumption)]
  refine zH rfl rfl (.tup (.cons (.agg ?_) (.cons (.refl _) .nil)))
  repeat'(first|exact Wks.nil|refine Wks.cons (Wk.refl _) ?_|refine Wks.cons (Wk.full _ _ _) ?_)
 ·rename_i e1 e2
  rw[hmk,if_neg e1,if_pos e2]
  refine zH rfl rfl (.tup (.cons (.agg ?_) (.cons (.refl _) .nil)))
  repeat'(first|exact Wks.nil|refine Wks.cons (Wk.refl _) ?_|refine Wks.cons (Wk.full _ _ _) ?_)
 ·rename_i e1 e2
  rw[hmk,if_neg e1,if_neg e2]
  exact zH rfl rfl (.refl _)
end Go.Proofs.YtokfbblhjpfjkaaGreat
