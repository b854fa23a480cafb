/- Are two rows of numbers alike; is a place in another one's term? -/
import Derived.Test.YtoknnfhgoikpiaaGreatLSwapsL
namespace Go.Proofs.YtoknnfhgoikpiaaGreat
set_option linter.unusedSimpArgs false
set_option linter.unusedVariables false
open Go.Aw Go.RowKit
def zhg:List (Nat×List Nat):=[(0,[]),(1,[]),(2,[0,1]),(3,[0,1,2]),(4,[]),(5,[]),(6,[4,5]),(7,[4,5,6]),(8,[0,1,2,3,4,5,6,7])]
attribute [local irreducible] WL AC WD WE MStep OkOp
attribute [local irreducible] zfd zvN
theorem zp4(l m:List Int)(h:l.length≤1048576)(h2:m.length≤1048576):FC Tryz.prog 49 [sI l,sI m] (.bool (decide (l=m))):=by
 have hl:=zap l
 have hm:=zap m
 refine zo hty Tryz.func49 rfl rfl rfl fun w0=>?_
 by_cases hlen:l.length=m.length
 ·have d0:IntKind.i64.wrap ((rsI l).length:Nat)=IntKind.i64.wrap ((rsI m).length:Nat):=by rw[hl,hm,hlen]
  repeat'(first|exact absurd d0 ‹_›|exact absurd (by rw[hl,hm,hlen]) ‹¬_=_›|(exfalso;omega)|refine WL_p hty rfl rfl ?_|refine zh ?_|refine zi ?_|refine za ?_|refine zf ?_|refine ze ?_|refine zd rfl ?_|refine zc rfl ?_|refine zl ?_|refine zg ?_|refine zb rfl ?_|refine zj rfl rfl rfl rfl (fun _=>?_) (fun _=>?_)|refine zk rfl (fun _=>?_) (fun _=>?_))
  refine zW l.length (fun i=>l.take i=m.take i) (fun i=>⟨envOf [(0,sI l),(1,sI m),(5,.int .i64 (i:Nat))],bkOf []⟩) (zp ⟨(zz rfl rfl),(zz rfl rfl),(zz rfl rfl),trivial⟩ trivial) rfl ?_
  intro i hi hI
  repeat'(first|refine WL_p hty rfl rfl ?_|refine zh ?_|refine zi ?_|refine za ?_|refine zf ?_|refine ze ?_|refine zd rfl ?_|refine zc rfl ?_|refine zl ?_|refine zg ?_|refine zb rfl ?_)
  refine zj rfl rfl rfl rfl (fun hc=>?_) (fun hc=>?_)
  ·have hlt:i <l.length:=by rw[zap]at hc;omega
   have hlt2:i <m.length:=by omega
   have rk:=zd6 (List.getElem?_eq_getElem hlt)
   have rm:=zd6 (List.getElem?_eq_getElem hlt2)
   by_cases hk:l[i]=m[i]
   ·repeat'(first|exact absurd hk ‹_›|refine zD (id:=6) zhg rfl (by kernel_rfl) ?_|refine zu (.inl ⟨rfl,zI hty rfl rfl⟩) ?_|refine zu (.inl ⟨rfl,zm hty rfl rfl rfl (by assumption) rfl⟩) ?_|refine zS ⟨by kernel_rfl,?_⟩|refine WL_p hty rfl rfl ?_|refine zh ?_|refine zi ?_|refine za ?_|refine zf ?_|refine ze ?_|refine zd rfl ?_|refine zc rfl ?_|refine zl ?_|refine zg ?_|refine zb rfl ?_|refine zj rfl rfl rfl rfl (fun _=>?_) (fun _=>?_)|refine zk rfl (fun _=>?_) (fun _=>?_)|refine zaC rfl rfl rfl rfl (fun _=>?_) (fun _=>?_))
    refine⟨hlt,?_,(zp ⟨(zz rfl rfl),(zz rfl rfl),⟨_,rfl,zO ?_ rfl⟩,trivial⟩ trivial)⟩
    ·rw[List.take_add_one,List.take_add_one,hI,List.getElem?_eq_getElem hlt,List.getElem?_eq_getElem hlt2,hk]
    ·exact congrArg (AV.int .i64) ((zy (by omega) (by omega)).trans (by omega))
   ·have hne:decide (l=m)=false:=decide_eq_false fun e=>hk (by subst e;rfl)
    rw[hne]
    repeat'(first|exact absurd hk (by assumption)|refine zD (id:=6) zhg rfl (by kernel_rfl) ?_|refine zu (.inl ⟨rfl,zI hty rfl rfl⟩) ?_|refine zu (.inl ⟨rfl,zm hty rfl rfl rfl (by assumption) rfl⟩) ?_|refine zS ⟨by kernel_rfl,?_⟩|refine WL_p hty rfl rfl ?_|refine zh ?_|refine zi ?_|refine za ?_|refine zf ?_|refine ze ?_|refine zd rfl ?_|refine zc rfl ?_|refine zl ?_|refine zg ?_|refine zb rfl ?_|refine zj rfl rfl rfl rfl (fun _=>?_) (fun _=>?_)|refine zk rfl (fun _=>?_) (fun _=>?_)|refine zaC rfl rfl rfl rfl (fun _=>?_) (fun _=>?_))
    all_goals rfl
  ·have he:i=l.length:=by rw[zap]at hc;omega
   have:decide (l=m)=true:=decide_eq_true (by
    rw[he,List.take_length,hlen,List.take_length]at hI;exact hI)
   rw[this]
   repeat'(first|refine WL_p hty rfl rfl ?_|refine zh ?_|refine zi ?_|refine za ?_|refine zf ?_|refine ze ?_|refine zd rfl ?_|refine zc rfl ?_|refine zl ?_|refine zg ?_|refine zb rfl ?_|refine zj rfl rfl rfl rfl (fun _=>?_) (fun _=>?_)|refine zk rfl (fun _=>?_) (fun _=>?_))
   rfl
 ·have hne:decide (l=m)=false:=decide_eq_false fun e=>hlen (by rw[e])
  rw[hne]
  repeat'(first|(exfalso;omega)|refine WL_p hty rfl rfl ?_|refine zh ?_|refine zi ?_|refine za ?_|refine zf ?_|refine ze ?_|refine zd rfl ?_|refine zc rfl ?_|refine zl ?_|refine zg ?_|refine zb rfl ?_|refine zj rfl rfl rfl rfl (fun _=>?_) (fun _=>?_)|refine zk rfl (fun _=>?_) (fun _=>?_))
  all_goals first
   |rfl
   |(exfalso;omega)
theorem zt4(l:List Int)(n:Nat):(sI (l.take n):AV)=.lst 1 (((rsI l).take n).drop 0) false:=by
 rw[List.drop_zero];show AV.lst 1 (rsI (l.take n)) false=_
 unfold rsI;rw[List.map_take]
theorem ziw(a b:List Int)(h:a.length≤1048576)(h2:b.length≤1048576):FC Tryz.prog 44 [sI a,sI b] (.bool (zbi a b)):=by
 have hl:=zap a
 have hm:=zap b
 refine zo hty Tryz.func44 rfl rfl rfl fun w0=>?_
 by_cases hlen:b.length≤a.length
 ·have hk:=zp4 (a.take b.length) b (by rw[List.length_take];omega) h2
  rw[zt4]at hk
  have hw:zbi a b=decide (a.take b.length=b):=by unfold zbi;rw[decide_eq_true hlen,Bool.true_and]
  rw[hw]
  generalize decide (a.take b.length=b)=r at hk
  repeat'(first|(exfalso;omega)|refine WL_m rfl (zbO hty 0 b.length rfl rfl rfl ⟨_,_,rfl,by rw[hm]⟩ (Nat.zero_le _) (by omega) rfl) ?_|refine zL rfl hk rfl (fun _=>?_) (fun _=>?_)|refine WL_p hty rfl rfl ?_|refine zh ?_|refine zi ?_|refine za ?_|refine ze ?_|refine zg ?_|refine zx rfl rfl ?_|refine zq rfl rfl rfl ?_|refine zt rfl rfl rfl ?_|refine zr rfl rfl rfl ?_|refine zb rfl ?_|refine zj rfl rfl rfl rfl (fun _=>?_) (fun _=>?_))
  all_goals first
   |rfl
   |exact Eq.symm (by assumption)
   |(exfalso;omega)
 ·have hw:zbi a b=false:=by unfold zbi;rw[decide_eq_false hlen];rfl
  rw[hw]
  repeat'(first|(exfalso;omega)|refine WL_p hty rfl rfl ?_|refine zh ?_|refine zi ?_|refine za ?_|refine ze ?_|refine zg ?_|refine zx rfl rfl ?_|refine zq rfl rfl rfl ?_|refine zt rfl rfl rfl ?_|refine zr rfl rfl rfl ?_|refine zb rfl ?_|refine zj rfl rfl rfl rfl (fun _=>?_) (fun _=>?_))
  all_goals first
   |rfl
   |(exfalso;omega)
end Go.Proofs.YtoknnfhgoikpiaaGreat
