/- Is a place ahead of another one; is nothing reduced at a term's places (ahead of -/
import Derived.Test.YtoknnfhgoikpiaaGreatLFirstL
import Derived.Test.YtoknnfhgoikpiaaGreatGJ
namespace Go.Proofs.YtoknnfhgoikpiaaGreat
set_option linter.unusedSimpArgs false
set_option linter.unusedVariables false
open Go.Aw Go.RowKit
def zpJ:List (Nat×List Nat):=[(0,[]),(1,[]),(2,[0,1]),(3,[0,1,2]),(4,[]),(5,[]),(6,[4,5]),(7,[4,5,6]),(8,[0,1,2,3,4,5,6,7])]
def zto:List (Nat×List Nat):=[(0,[]),(1,[]),(2,[0,1]),(3,[0,1,2]),(4,[]),(5,[]),(6,[4,5]),(7,[4,5,6]),(8,[0,1,2,3,4,5,6,7]),(9,[0,1,2,3,4,5,6,7,8])]
attribute [local irreducible] WL AC WD WE MStep OkOp
attribute [local irreducible] zfd zvN
theorem zwZ{a b:List Int}{i:Nat}(h1:i <a.length)(h2:i <b.length):zdm (a.drop i) (b.drop i)=if a[i]=b[i]then zdm (a.drop (i+1)) (b.drop (i+1))else decide (a[i] <b[i]):=by
 rw[List.drop_eq_getElem_cons h1,List.drop_eq_getElem_cons h2,zdm]
theorem zwn{a b:List Int}{i:Nat}(h1:i≤a.length)(h2:i≤b.length)(h:i=a.length∨i=b.length):zdm (a.drop i) (b.drop i)=decide (a.length <b.length):=by
 have: ∀ x y:List Int,x=[]∨y=[]→zdm x y=decide (x.length <y.length):=by
  intro x y q
  cases x <;>cases y <;>first|(unfold zdm;rfl)|(rcases q with q|q <;>cases q)
 rw[this _ _ (by rcases h with rfl|rfl <;>simp),List.length_drop,List.length_drop]
 congr 1
 apply propext;omega
set_option maxHeartbeats 4000000 in
theorem zwR(a b:List Int)(h:a.length≤1048576)(h2:b.length≤1048576):FC Tryz.prog 106 [sI a,sI b] (.bool (zdm a b)):=by
 have hl:=zap a
 have hm:=zap b
 refine zo hty Tryz.func106 rfl rfl rfl fun w0=>?_
 repeat'(first|refine WL_p hty rfl rfl ?_|refine zh ?_|refine zi ?_|refine za ?_|refine zf ?_|refine ze ?_|refine zd rfl ?_|refine zbZ rfl ?_|refine zl ?_|refine zg ?_|refine zx rfl rfl ?_|refine zq rfl rfl rfl ?_|refine zot rfl rfl rfl ?_|refine zr rfl rfl rfl ?_|refine zb rfl ?_|refine zj rfl rfl rfl rfl (fun _=>?_) (fun _=>?_)|refine zk rfl (fun _=>?_) (fun _=>?_))
 refine zW a.length (fun i=>i≤b.length∧zdm a b=zdm (a.drop i) (b.drop i)) (fun i=>⟨envOf [(0,sI a),(1,sI b),(5,.int .i64 (i:Nat))],bkOf []⟩) (zfY ⟨(zz rfl rfl),(zz rfl rfl),(zz rfl rfl),trivial⟩ trivial) ⟨Nat.zero_le _,rfl⟩ ?_
 intro i hi hI
 obtain⟨hi2,hI⟩:=hI
 by_cases hlt:i <a.length
 ·by_cases hlt2:i <b.length
  ·have rk:=zd6 (List.getElem?_eq_getElem hlt)
   have rm:=zd6 (List.getElem?_eq_getElem hlt2)
   rw[zwZ hlt hlt2]at hI
   by_cases hk:a[i]=b[i]
   ·rw[if_pos hk]at hI
    repeat'(first|(exfalso;omega)|exact absurd hk (by assumption)|refine zD (id:=4) zpJ rfl (by kernel_rfl) ?_|refine zu (.inl ⟨rfl,zI hty rfl rfl⟩) ?_|refine zu (.inl ⟨rfl,zm hty rfl rfl rfl (by assumption) rfl⟩) ?_|refine zS ⟨by kernel_rfl,?_⟩|refine WL_p hty rfl rfl ?_|refine zh ?_|refine zi ?_|refine za ?_|refine zf ?_|refine ze ?_|refine zd rfl ?_|refine zbZ rfl ?_|refine zl ?_|refine zg ?_|refine zx rfl rfl ?_|refine zq rfl rfl rfl ?_|refine zot rfl rfl rfl ?_|refine zr rfl rfl rfl ?_|refine zb rfl ?_|refine zj rfl rfl rfl rfl (fun _=>?_) (fun _=>?_)|refine zk rfl (fun _=>?_) (fun _=>?_)|refine zaC rfl rfl rfl rfl (fun _=>?_) (fun _=>?_))
    refine⟨hlt,⟨by omega,hI⟩,(zfY ⟨(zz rfl rfl),(zz rfl rfl),⟨_,rfl,zO ?_ rfl⟩,trivial⟩ trivial)⟩
    exact congrArg (AV.int .i64) ((zy (by omega) (by omega)).trans (by omega))
   ·rw[if_neg hk]at hI
    rw[hI]
    by_cases hq:a[i] <b[i]
    ·rw[decide_eq_true hq]
     repeat'(first|(exfalso;omega)|exact absurd hk (by assumption)|exact absurd hq (by assumption)|(refine za8 (id:=4) ?_;refine zD (id:=4) zpJ rfl (by kernel_rfl) ?_)|(refine za8 (id:=5) ?_;refine zab (zfY (l:=[(0,_),(1,_),(5,_)]) (bl:=[]) ⟨(zz rfl rfl),(zz rfl rfl),(zz rfl rfl),trivial⟩ trivial) ?_;refine zD (id:=5) zto rfl (by kernel_rfl) ?_)|refine zu (.inl ⟨rfl,zI hty rfl rfl⟩) ?_|refine zu (.inl ⟨rfl,zm hty rfl rfl rfl (by assumption) rfl⟩) ?_|refine zS ⟨by kernel_rfl,?_⟩|refine WL_p hty rfl rfl ?_|refine zh ?_|refine zi ?_|refine za ?_|refine zf ?_|refine ze ?_|refine zd rfl ?_|refine zbZ rfl ?_|refine zl ?_|refine zg ?_|refine zx rfl rfl ?_|refine zq rfl rfl rfl ?_|refine zot rfl rfl rfl ?_|refine zr rfl rfl rfl ?_|refine zb rfl ?_|refine zj rfl rfl rfl rfl (fun _=>?_) (fun _=>?_)|refine zk rfl (fun _=>?_) (fun _=>?_)|refine zaC rfl rfl rfl rfl (fun _=>?_) (fun _=>?_))
     all_goals rfl
    ·rw[decide_eq_false hq]
     repeat'(first|(exfalso;omega)|exact absurd hk (by assumption)|exact absurd (by assumption) hq|(refine za8 (id:=4) ?_;refine zD (id:=4) zpJ rfl (by kernel_rfl) ?_)|(refine za8 (id:=5) ?_;refine zab (zfY (l:=[(0,_),(1,_),(5,_)]) (bl:=[]) ⟨(zz rfl rfl),(zz rfl rfl),(zz rfl rfl),trivial⟩ trivial) ?_;refine zD (id:=5) zto rfl (by kernel_rfl) ?_)|refine zu (.inl ⟨rfl,zI hty rfl rfl⟩) ?_|refine zu (.inl ⟨rfl,zm hty rfl rfl rfl (by assumption) rfl⟩) ?_|refine zS ⟨by kernel_rfl,?_⟩|refine WL_p hty rfl rfl ?_|refine zh ?_|refine zi ?_|refine za ?_|refine zf ?_|refine ze ?_|refine zd rfl ?_|refine zbZ rfl ?_|refine zl ?_|refine zg ?_|refine zx rfl rfl ?_|refine zq rfl rfl rfl ?_|refine zot rfl rfl rfl ?_|refine zr rfl rfl rfl ?_|refine zb rfl ?_|refine zj rfl rfl rfl rfl (fun _=>?_) (fun _=>?_)|refine zk rfl (fun _=>?_) (fun _=>?_)|refine zaC rfl rfl rfl rfl (fun _=>?_) (fun _=>?_))
     all_goals rfl
  ·rw[zwn hi hi2 (.inr (by omega))]at hI
   rw[hI]
   by_cases hq:a.length <b.length
   ·rw[decide_eq_true hq]
    repeat'(first|(exfalso;omega)|refine WL_p hty rfl rfl ?_|refine zh ?_|refine zi ?_|refine za ?_|refine zf ?_|refine ze ?_|refine zd rfl ?_|refine zbZ rfl ?_|refine zl ?_|refine zg ?_|refine zx rfl rfl ?_|refine zq rfl rfl rfl ?_|refine zot rfl rfl rfl ?_|refine zr rfl rfl rfl ?_|refine zb rfl ?_|refine zj rfl rfl rfl rfl (fun _=>?_) (fun _=>?_)|refine zk rfl (fun _=>?_) (fun _=>?_))
    all_goals rfl
   ·rw[decide_eq_false hq]
    repeat'(first|(exfalso;omega)|refine WL_p hty rfl rfl ?_|refine zh ?_|refine zi ?_|refine za ?_|refine zf ?_|refine ze ?_|refine zd rfl ?_|refine zbZ rfl ?_|refine zl ?_|refine zg ?_|refine zx rfl rfl ?_|refine zq rfl rfl rfl ?_|refine zot rfl rfl rfl ?_|refine zr rfl rfl rfl ?_|refine zb rfl ?_|refine zj rfl rfl rfl rfl (fun _=>?_) (fun _=>?_)|refine zk rfl (fun _=>?_) (fun _=>?_))
    all_goals rfl
 ·rw[zwn hi hi2 (.inl (by omega))]at hI
  rw[hI]
  by_cases hq:a.length <b.length
  ·rw[decide_eq_true hq]
   repeat'(first|(exfalso;omega)|refine WL_p hty rfl rfl ?_|refine zh ?_|refine zi ?_|refine za ?_|refine zf ?_|refine ze ?_|refine zd rfl ?_|refine zbZ rfl ?_|refine zl ?_|refine zg ?_|refine zx rfl rfl ?_|refine zq rfl rfl rfl ?_|refine zot rfl rfl rfl ?_|refine zr rfl rfl rfl ?_|refine zb rfl ?_|refine zj rfl rfl rfl rfl (fun _=>?_) (fun _=>?_)|refine zk rfl (fun _=>?_) (fun _=>?_))
   all_goals rfl
  ·rw[decide_eq_false hq]
   repeat'(first|(exfalso;omega)|refine WL_p hty rfl rfl ?_|refine zh ?_|refine zi ?_|refine za ?_|refine zf ?_|refine ze ?_|refine zd rfl ?_|refine zbZ rfl ?_|refine zl ?_|refine zg ?_|refine zx rfl rfl ?_|refine zq rfl rfl rfl ?_|refine zot rfl rfl rfl ?_|refine zr rfl rfl rfl ?_|refine zb rfl ?_|refine zj rfl rfl rfl rfl (fun _=>?_) (fun _=>?_)|refine zk rfl (fun _=>?_) (fun _=>?_))
   all_goals rfl
end Go.Proofs.YtoknnfhgoikpiaaGreat
