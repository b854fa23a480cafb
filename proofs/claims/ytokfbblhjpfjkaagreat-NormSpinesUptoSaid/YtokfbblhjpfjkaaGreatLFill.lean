/- Terms of a row, over and over (the law's own helper); a term applied to others ( -/
import Derived.Test.YtokfbblhjpfjkaaGreatGK
import Derived.Test.YtokfbblhjpfjkaaGreatGN
import Derived.Test.YtokfbblhjpfjkaaGreatGI
namespace Go.Proofs.YtokfbblhjpfjkaaGreat
set_option linter.unusedSimpArgs false
set_option linter.unusedVariables false
open Go.Aw Go.RowKit
def zB1:List (Nat×List Nat):=[(0,[]),(1,[]),(2,[]),(3,[1,2]),(4,[1,2,3]),(5,[1,2,3,4]),(6,[0,1,2,3,4,5]),(7,[0,1,2,3,4,5,6]),(8,[0,1,2,3,4,5,6,7])]
attribute [local irreducible] WL AC WD WE MStep OkOp
def zyL(l:List Tm)(fr i:Nat):Tm:=l.getD ((fr+i)%l.length) zT
def zCF(l:List Tm)(fr n:Nat):List Tm:=(List.range n).map (zyL l fr)
set_option maxHeartbeats 1000000 in
theorem zzd(f:Tm)(l:List Tm)(hf:f.size≤1048576)(hl:sizes l≤1048576):FC Tryz.prog 28 [aT f,sT l] (aT (zaR f l)):=by
 have hlen:=zM l
 have h0:=zjM f hf
 refine zo hty Tryz.func28 rfl rfl rfl fun w0=>?_
 repeat'(first|refine zv 0 rfl h0 rfl rfl rfl ?_|refine WL_p hty rfl rfl ?_|refine zh ?_|refine zi ?_|refine za ?_|refine zf ?_|refine ze ?_|refine zd rfl ?_|refine zbZ rfl ?_|refine zl ?_|refine zg ?_|refine zb rfl ?_|refine zj rfl rfl rfl rfl (fun _=>?_) (fun _=>?_)|refine zk rfl (fun _=>?_) (fun _=>?_))
 refine zW l.length (fun _=>True) (fun i=>⟨envOf [(1,sT l),(4,.ptr 4 0),(5,.ptr 5 0),(6,.int .i64 (i:Nat))],bkOf [(4,.box [.int .i64 0,.int .i64 0,.lst 3 [] true]),(5,.box (cT (zaR f (l.take i))))]⟩)
  (zfY ⟨(zz rfl rfl),(zz rfl rfl),(zz rfl rfl),(zz rfl rfl),trivial⟩ ⟨(zw rfl rfl),(zw rfl rfl),trivial⟩) trivial ?_
 intro i hi _
 repeat'(first|refine WL_p hty rfl rfl ?_|refine zh ?_|refine zi ?_|refine za ?_|refine zf ?_|refine ze ?_|refine zd rfl ?_|refine zbZ rfl ?_|refine zl ?_|refine zg ?_|refine zb rfl ?_)
 refine zj rfl rfl rfl rfl (fun hc=>?_) (fun hc=>?_)
 ·have hlt:i <l.length:=by rw[zeb]at hc;omega
  obtain⟨a,ha,hmem⟩:=zA hlt
  have ra:=zac ha
  have has:=zK hmem
  have h1:=zjM a (by omega)
  have h2:=rt2 6 (zaR f (l.take i)) a
  repeat'(first|refine zD (id:=5) zB1 rfl (by kernel_rfl) ?_|refine zad 0 rfl h1 rfl rfl rfl ?_|refine zad 0 rfl h2 rfl rfl rfl ?_|refine zu (.inl ⟨rfl,zI hty rfl rfl⟩) ?_|refine zu (.inl ⟨rfl,zm hty rfl rfl rfl (by assumption) rfl⟩) ?_|refine zS ⟨by kernel_rfl,?_⟩|refine WL_p hty rfl rfl ?_|refine zh ?_|refine zi ?_|refine za ?_|refine zf ?_|refine ze ?_|refine zd rfl ?_|refine zbZ rfl ?_|refine zl ?_|refine zg ?_|refine zb rfl ?_|refine zj rfl rfl rfl rfl (fun _=>?_) (fun _=>?_)|refine zk rfl (fun _=>?_) (fun _=>?_))
  have hnx:zaR f (l.take (i+1))=.mk 6 0 [zaR f (l.take i),a]:=by rw[List.take_add_one,ha,Option.toList_some];simp[zaR]
  refine⟨hlt,trivial,(zfY ⟨(zz rfl rfl),(zz rfl rfl),(zz rfl rfl),⟨_,rfl,zO ?_ rfl⟩,trivial⟩ ⟨(zw rfl rfl),⟨⟨_,rfl,.of_eq ?_⟩,rfl⟩,trivial⟩)⟩
  ·exact congrArg (AV.int .i64) ((zy (by omega) (by omega)).trans (by omega))
  ·rw[hnx]
 ·obtain rfl:i=l.length:=by rw[zeb]at hc;omega
  repeat'(first|refine WL_p hty rfl rfl ?_|refine zh ?_|refine zi ?_|refine za ?_|refine zf ?_|refine ze ?_|refine zd rfl ?_|refine zbZ rfl ?_|refine zl ?_|refine zg ?_|refine zb rfl ?_|refine zj rfl rfl rfl rfl (fun _=>?_) (fun _=>?_)|refine zk rfl (fun _=>?_) (fun _=>?_))
  rw[List.take_length]
  exact zdC rfl rfl rfl
end Go.Proofs.YtokfbblhjpfjkaaGreat
