/- Terms of a row, over and over (the law's own helper); a term applied to others ( -/
import Derived.Test.YtoknnfhgoikpiaaGreatGK
import Derived.Test.YtoknnfhgoikpiaaGreatGN
import Derived.Test.YtoknnfhgoikpiaaGreatGI
namespace Go.Proofs.YtoknnfhgoikpiaaGreat
set_option linter.unusedSimpArgs false
set_option linter.unusedVariables false
open Go.Aw Go.RowKit
def zzB:List (Nat×List Nat):=[(0,[]),(1,[]),(2,[]),(3,[1,2]),(4,[1,2,3]),(5,[1,2,3,4]),(6,[0,1,2,3,4,5]),(7,[0,1,2,3,4,5,6]),(8,[0,1,2,3,4,5,6,7])]
attribute [local irreducible] WL AC WD WE MStep OkOp
def zyL(l:List Tm)(fr i:Nat):Tm:=l.getD ((fr+i)%l.length) zT
def fillT(l:List Tm)(fr n:Nat):List Tm:=(List.range n).map (zyL l fr)
theorem zyh(l:List Tm)(fr n:Nat):(fillT l fr n).length=n:=by simp[fillT]
theorem zx8(l:List Tm)(fr n:Nat):fillT l fr (n+1)=fillT l fr n++[zyL l fr n]:=by simp[fillT,List.range_succ]
theorem zzl{l:List Tm}{fr n:Nat}{x:Tm}(hne:l≠[])(h:x∈fillT l fr n):x∈l:=by
 obtain⟨i,_,rfl⟩:=List.mem_map.1 h
 have:(fr+i)%l.length <l.length:=Nat.mod_lt _ (List.length_pos_iff.2 hne)
 unfold zyL
 rw[List.getD_eq_getElem?_getD,List.getElem?_eq_getElem this];exact List.getElem_mem _
set_option maxHeartbeats 1000000 in
theorem zzm(l:List Tm)(fr n:Nat)(hne:l≠[])(hl:sizes l≤1048576)(hf:fr≤1048576)(hn:n≤1048576):FC Tryz.prog 31 [sT l,.int .i64 (fr:Nat),.int .i64 (n:Nat)] (znb (fillT l fr n)):=by
 have hlen:=zM l
 have hpos:0 <l.length:=List.length_pos_iff.2 hne
 have hrl:=zeb l
 refine zo hty Tryz.func31 rfl rfl rfl fun w0=>?_
 repeat'(first|refine WL_p hty rfl rfl ?_|refine zh ?_|refine zi ?_|refine za ?_|refine zf ?_|refine ze ?_|refine zd rfl ?_|refine zbZ rfl ?_|refine zl ?_|refine zg ?_|refine zx rfl rfl ?_|refine zq rfl rfl rfl ?_|refine zot rfl rfl rfl ?_|refine zr rfl rfl rfl ?_|refine WL_m rfl (zm hty rfl rfl rfl (by assumption) rfl) ?_|refine zb rfl ?_|refine zj rfl rfl rfl rfl (fun _=>?_) (fun _=>?_)|refine zk rfl (fun _=>?_) (fun _=>?_))
 refine zab (zcc 107 rfl) ?_
 refine zW n (fun _=>True) (fun i=>⟨envOf [(0,sT l),(1,.int .i64 (fr:Nat)),(2,.int .i64 (n:Nat)),(7,grV 107 3 (rsT (fillT l fr i))),(8,.int .i64 (i:Nat))],bkOf [(107,grB 25 3 (rsT (fillT l fr i)))]⟩)
  (zfY ⟨(zz rfl rfl),(zz rfl rfl),(zz rfl rfl),⟨_,rfl,.inl ⟨.nil _ _ _,rfl⟩⟩,(zz rfl rfl),trivial⟩ ⟨(zw rfl rfl),trivial⟩) trivial ?_
 intro i hi _
 repeat'(first|refine WL_p hty rfl rfl ?_|refine zh ?_|refine zi ?_|refine za ?_|refine zf ?_|refine ze ?_|refine zd rfl ?_|refine zbZ rfl ?_|refine zl ?_|refine zg ?_|refine zx rfl rfl ?_|refine zq rfl rfl rfl ?_|refine zot rfl rfl rfl ?_|refine zr rfl rfl rfl ?_|refine WL_m rfl (zm hty rfl rfl rfl (by assumption) rfl) ?_|refine zb rfl ?_)
 refine zj rfl rfl rfl rfl (fun hc=>?_) (fun hc=>?_)
 ·have hlt:i <n:=by omega
  have hm:(fr+i)%l.length <l.length:=Nat.mod_lt _ hpos
  have ra:(rsT l)[(fr+i)%l.length]? =some (cT (zyL l fr i)):=zac (by unfold zyL;rw[List.getD_eq_getElem?_getD,List.getElem?_eq_getElem hm];rfl)
  have hw:IntKind.i64.wrap ((fr:Int)+(i:Int))=((fr+i:Nat):Int):=(zy (by omega) (by omega)).trans (by omega)
  have he:(IntKind.i64.wrap ((fr:Int)+(i:Int))).tmod (((rsT l).length:Nat):Int)=(((fr+i)%l.length:Nat):Int):=by
   rw[hw,hrl,Int.tmod_eq_emod_of_nonneg (by omega)];rfl
  have hz:(((rsT l).length:Nat):Int)≠0:=by rw[hrl];omega
  have hwm:IntKind.i64.wrap ((IntKind.i64.wrap ((fr:Int)+(i:Int))).tmod (((rsT l).length:Nat):Int))=(((fr+i)%l.length:Nat):Int):=by rw[he];exact zy (by omega) (by omega)
  repeat'(first|exact absurd (by assumption) (show ¬ ¬_ by omega)|(exfalso;omega)|refine WL_m rfl (zyW rfl rfl hz rfl) ?_|refine WL_m rfl (zaq hty rfl rfl rfl (by rw[he];omega) (by rw[he];exact ra) rfl) ?_|refine WL_m rfl (zck hty 307 rfl rfl rfl rfl rfl rfl rfl (by simp only[zeb,zyh,List.length_cons,List.length_nil];omega) rfl rfl rfl) ?_|refine WL_p hty rfl rfl ?_|refine zh ?_|refine zi ?_|refine za ?_|refine zf ?_|refine ze ?_|refine zd rfl ?_|refine zbZ rfl ?_|refine zl ?_|refine zg ?_|refine zx rfl rfl ?_|refine zq rfl rfl rfl ?_|refine zot rfl rfl rfl ?_|refine zr rfl rfl rfl ?_|refine WL_m rfl (zm hty rfl rfl rfl (by assumption) rfl) ?_|refine zb rfl ?_|refine zj rfl rfl rfl rfl (fun _=>?_) (fun _=>?_)|refine zk rfl (fun _=>?_) (fun _=>?_))
  have hnx:rsT (fillT l fr (i+1))=rsT (fillT l fr i)++[cT (zyL l fr i)]:=by rw[zx8,zas,rs1]
  refine⟨hlt,trivial,(zbf [(107,307)] rfl ⟨⟨_,rfl,.inl ⟨.refl _,rfl⟩⟩,⟨_,rfl,.inl ⟨.refl _,rfl⟩⟩,⟨_,rfl,.inl ⟨.refl _,rfl⟩⟩,⟨_,rfl,.inl ⟨zgT rfl ?_,zc7 rfl⟩⟩,⟨_,rfl,zO ?_ rfl⟩,trivial⟩ ⟨⟨⟨_,rfl,zdt ?_⟩,zbu⟩,trivial⟩)⟩
  ·exact hnx.symm
  ·exact congrArg (AV.int .i64) ((zy (by omega) (by omega)).trans (by omega))
  ·exact hnx.symm
 ·obtain rfl:i=n:=by omega
  repeat'(first|refine WL_p hty rfl rfl ?_|refine zh ?_|refine zi ?_|refine za ?_|refine zf ?_|refine ze ?_|refine zd rfl ?_|refine zbZ rfl ?_|refine zl ?_|refine zg ?_|refine zx rfl rfl ?_|refine zq rfl rfl rfl ?_|refine zot rfl rfl rfl ?_|refine zr rfl rfl rfl ?_|refine WL_m rfl (zm hty rfl rfl rfl (by assumption) rfl) ?_|refine zb rfl ?_|refine zj rfl rfl rfl rfl (fun _=>?_) (fun _=>?_)|refine zk rfl (fun _=>?_) (fun _=>?_))
  show zdS _ _ (zt8 25 3 (rsT (fillT l fr i))) _ _
  generalize rsT (fillT l fr i)=rs
  cases rs
  ·exact zdC rfl rfl rfl
  ·exact zes rfl rfl rfl
set_option maxHeartbeats 1000000 in
theorem zzd(f:Tm)(l:List Tm)(hf:f.size≤1048576)(hl:sizes l≤1048576):FC Tryz.prog 38 [aT f,sT l] (aT (zaR f l)):=by
 have hlen:=zM l
 have h0:=zjM f hf
 refine zo hty Tryz.func38 rfl rfl rfl fun w0=>?_
 repeat'(first|refine zv 0 rfl h0 rfl rfl rfl ?_|refine WL_p hty rfl rfl ?_|refine zh ?_|refine zi ?_|refine za ?_|refine zf ?_|refine ze ?_|refine zd rfl ?_|refine zbZ rfl ?_|refine zl ?_|refine zg ?_|refine zb rfl ?_|refine zj rfl rfl rfl rfl (fun _=>?_) (fun _=>?_)|refine zk rfl (fun _=>?_) (fun _=>?_))
 refine zW l.length (fun _=>True) (fun i=>⟨envOf [(1,sT l),(4,.ptr 4 0),(5,.ptr 5 0),(6,.int .i64 (i:Nat))],bkOf [(4,.box [.int .i64 0,.int .i64 0,.lst 3 [] true]),(5,.box (cT (zaR f (l.take i))))]⟩)
  (zfY ⟨(zz rfl rfl),(zz rfl rfl),(zz rfl rfl),(zz rfl rfl),trivial⟩ ⟨(zw rfl rfl),(zw rfl rfl),trivial⟩) trivial ?_
 intro i hi _
 repeat'(first|refine WL_p hty rfl rfl ?_|refine zh ?_|refine zi ?_|refine za ?_|refine zf ?_|refine ze ?_|refine zd rfl ?_|refine zbZ rfl ?_|refine zl ?_|refine zg ?_|refine zb rfl ?_)
 refine zj rfl rfl rfl rfl (fun hc=>?_) (fun hc=>?_)
 ·have hlt:i <l.length:=by rw[zeb]at hc;omega
  obtain⟨a,ha,hmem⟩:=zA hlt
  have ra:=zac ha
  have has:=zK hmem
  have h1:=zjM a (by omega)
  have h2:=rt2 6 (zaR f (l.take i)) a
  repeat'(first|refine zD (id:=5) zzB rfl (by kernel_rfl) ?_|refine zad 0 rfl h1 rfl rfl rfl ?_|refine zad 0 rfl h2 rfl rfl rfl ?_|refine zu (.inl ⟨rfl,zI hty rfl rfl⟩) ?_|refine zu (.inl ⟨rfl,zm hty rfl rfl rfl (by assumption) rfl⟩) ?_|refine zS ⟨by kernel_rfl,?_⟩|refine WL_p hty rfl rfl ?_|refine zh ?_|refine zi ?_|refine za ?_|refine zf ?_|refine ze ?_|refine zd rfl ?_|refine zbZ rfl ?_|refine zl ?_|refine zg ?_|refine zb rfl ?_|refine zj rfl rfl rfl rfl (fun _=>?_) (fun _=>?_)|refine zk rfl (fun _=>?_) (fun _=>?_))
  have hnx:zaR f (l.take (i+1))=.mk 6 0 [zaR f (l.take i),a]:=by rw[List.take_add_one,ha,Option.toList_some];simp[zaR]
  refine⟨hlt,trivial,(zfY ⟨(zz rfl rfl),(zz rfl rfl),(zz rfl rfl),⟨_,rfl,zO ?_ rfl⟩,trivial⟩ ⟨(zw rfl rfl),⟨⟨_,rfl,.of_eq ?_⟩,rfl⟩,trivial⟩)⟩
  ·exact congrArg (AV.int .i64) ((zy (by omega) (by omega)).trans (by omega))
  ·rw[hnx]
 ·obtain rfl:i=l.length:=by rw[zeb]at hc;omega
  repeat'(first|refine WL_p hty rfl rfl ?_|refine zh ?_|refine zi ?_|refine za ?_|refine zf ?_|refine ze ?_|refine zd rfl ?_|refine zbZ rfl ?_|refine zl ?_|refine zg ?_|refine zb rfl ?_|refine zj rfl rfl rfl rfl (fun _=>?_) (fun _=>?_)|refine zk rfl (fun _=>?_) (fun _=>?_))
  rw[List.take_length]
  exact zdC rfl rfl rfl
end Go.Proofs.YtoknnfhgoikpiaaGreat
