/- comp.Decode, comp.Elim, called as they may be. -/
import Derived.Test.YtoknnfhgoikpiaaGreatGI
import Derived.Test.YtoknnfhgoikpiaaGreatGG
import Derived.Test.YtoknnfhgoikpiaaGreatGH
namespace Go.Proofs.YtoknnfhgoikpiaaGreat
set_option linter.unusedSimpArgs false
set_option linter.unusedVariables false
open Go.Aw Go.RowKit
def zzn:List (Nat×List Nat):=[(0,[]),(1,[0]),(2,[0,1]),(3,[0,1,2]),(4,[0,1,2]),(5,[0,1,2,4]),(6,[0,1,2,4,5]),(7,[0,1,2,3,4,5,6]),(8,[0,1,2,3,4,5,6,7]),(9,[0,1,2,3,4,5,6,7,8]),(10,[0,1,2,3,4,5,6,7,8,9]),(11,[0,1,2,3,4,5,6,7,8,9,10]),(12,[0,1,2,3,4,5,6,7,8,9]),(13,[0,1,2,3,4,5,6,7,8,9,12]),(14,[0,1,2,3,4,5,6,7,8,9]),(15,[0,1,2,3,4,5,6,7,8,9,12,13,14]),(16,[0,1,2,3,4,5,6,7,8,9,12,13,14,15]),(17,[0,1,2,3,4,5,6,7,8,9,12,13,14,15,16]),(18,[0,1,2,3,4,5,6,7,8,9,12,13,14,15,16,17]),(19,[0,1,2,3,4,5,6,7,8,9,10,11,12,13,14,15,16,17,18]),(20,[0,1,2,3,4,5,6,7,8,9,10,11,12,13,14,15,16,17,18,19]),(21,[0,1,2,3,4,5,6,7,8,9,10,11,12,13,14,15,16,17,18,19,20]),(22,[0,1,2,3,4,5,6,7,8,9,10,11,12,13,14,15,16,17,18,19,20,21]),(23,[0,1,2,3,4,5,6,7,8,9,10,11,12,13,14,15,16,17,18,19,20,21,22]),(24,[0,1,2,3,4,5,6,7,8,9,10,11,12,13,14,15,16,17,18,19,20,21]),(25,[0,1,2,3,4,5,6,7,8,9,10,11,12,13,14,15,16,17,18,19,20,21,24]),(26,[0,1,2,3,4,5,6,7,8,9,10,11,12,13,14,15,16,17,18,19,20,21]),(27,[0,1,2,3,4,5,6,7,8,9,10,11,12,13,14,15,16,17,18,19,20,21,24,25,26]),(28,[0,1,2,3,4,5,6,7,8,9,10,11,12,13,14,15,16,17,18,19,20,21,24,25,26,27]),(29,[0,1,2,3,4,5,6,7,8,9,10,11,12,13,14,15,16,17,18,19,20,21,24,25,26,27,28]),(30,[0,1,2,3,4,5,6,7,8,9,10,11,12,13,14,15,16,17,18,19,20,21,22,23,24,25,26,27,28,29]),(31,[0,1,2,3,4,5,6,7,8,9,10,11,12,13,14,15,16,17,18,19,20,21,22,23,24,25,26,27,28,29,30]),(32,[0,1,2,3,4,5,6,7,8,9,10,11,12,13,14,15,16,17,18,19,20,21,22,23,24,25,26,27,28,29,30,31]),(33,[0,1,2,3,4,5,6,7,8,9,10,11,12,13,14,15,16,17,18,19,20,21,22,23,24,25,26,27,28,29,30,31,32]),(34,[0,1,2,3,4,5,6,7,8,9,10,11,12,13,14,15,16,17,18,19,20,21,22,23,24,25,26,27,28,29,30,31,32,33]),(35,[0,1,2,3,4,5,6,7,8,9,10,11,12,13,14,15,16,17,18,19,20,21,22,23,24,25,26,27,28,29,30,31,32,33,34])]
attribute [local irreducible] WL AC WD WE MStep OkOp
def rsL(ls:List (List Tm)):List (List AV):=ls.map fun l=>[sT l]
theorem zzC(ls:List (List Tm)):(rsL ls).length=ls.length:=by simp[rsL]
theorem zzU{ls:List (List Tm)}{i:Nat}{l:List Tm}(h:ls[i]? =some l):(rsL ls)[i]? =some [sT l]:=by rw[rsL,List.getElem?_map,h];rfl
set_option maxHeartbeats 2000000 in
theorem zzw(ls:List (List Tm))(full:Bool)(hn:ls.length≤1048576)(h: ∀ l,l∈ls→sizes l≤1048576∧ ∀ t,t∈l→z8 t=0):FC Tryz.prog 89 [.lst 1 (rsL ls) full] (.int .i64 0):=by
 have hrl:=zzC ls
 refine zo hty Tryz.func89 rfl rfl rfl fun w0=>?_
 repeat'(first|refine WL_p hty rfl rfl ?_|refine zh ?_|refine zi ?_|refine za ?_|refine zf ?_|refine ze ?_|refine zd rfl ?_|refine zbZ rfl ?_|refine zl ?_|refine zg ?_|refine WL_m rfl (zm hty rfl rfl rfl (by assumption) rfl) ?_|refine zb rfl ?_|refine zj rfl rfl rfl rfl (fun _=>?_) (fun _=>?_)|refine zk rfl (fun _=>?_) (fun _=>?_))
 refine zW ls.length (fun _=>True) (fun i=>⟨envOf [(2,.int .i64 0),(8,.lst 1 (rsL ls) full),(9,.int .i64 ((rsL ls).length:Nat)),(10,.int .i64 (i:Nat))],bkOf []⟩) (zfY ⟨(zz rfl rfl),(zz rfl rfl),(zz rfl rfl),(zz rfl rfl),trivial⟩ trivial) trivial ?_
 intro i hi _
 repeat'(first|refine WL_p hty rfl rfl ?_|refine zh ?_|refine zi ?_|refine za ?_|refine zf ?_|refine ze ?_|refine zd rfl ?_|refine zbZ rfl ?_|refine zl ?_|refine zg ?_|refine WL_m rfl (zm hty rfl rfl rfl (by assumption) rfl) ?_|refine zb rfl ?_)
 refine zj rfl rfl rfl rfl (fun hc=>?_) (fun hc=>?_)
 ·have hlt:i <ls.length:=by rw[hrl]at hc;omega
  have hg:=List.getElem?_eq_getElem hlt
  have hm:=List.getElem_mem hlt
  generalize ls[i]=l at hg hm
  have rl:=zzU hg
  obtain⟨hz,hck⟩:=h l hm
  have hll:=zM l
  repeat'(first|refine WL_p hty rfl rfl ?_|refine zh ?_|refine zi ?_|refine za ?_|refine zf ?_|refine ze ?_|refine zd rfl ?_|refine zbZ rfl ?_|refine zl ?_|refine zg ?_|refine WL_m rfl (zm hty rfl rfl rfl (by assumption) rfl) ?_|refine zb rfl ?_|refine zj rfl rfl rfl rfl (fun _=>?_) (fun _=>?_)|refine zk rfl (fun _=>?_) (fun _=>?_))
  refine zW l.length (fun _=>True) (fun j=>⟨envOf [(2,.int .i64 0),(8,.lst 1 (rsL ls) full),(9,.int .i64 ((rsL ls).length:Nat)),(10,.int .i64 (i:Nat)),(14,sT l),(15,.int .i64 ((rsT l).length:Nat)),(16,.int .i64 (j:Nat))],bkOf []⟩) (zfY ⟨(zz rfl rfl),(zz rfl rfl),(zz rfl rfl),(zz rfl rfl),(zz rfl rfl),(zz rfl rfl),(zz rfl rfl),trivial⟩ trivial) trivial ?_
  intro j hj _
  repeat'(first|refine WL_p hty rfl rfl ?_|refine zh ?_|refine zi ?_|refine za ?_|refine zf ?_|refine ze ?_|refine zd rfl ?_|refine zbZ rfl ?_|refine zl ?_|refine zg ?_|refine WL_m rfl (zm hty rfl rfl rfl (by assumption) rfl) ?_|refine zb rfl ?_)
  refine zj rfl rfl rfl rfl (fun hd=>?_) (fun hd=>?_)
  ·have hlt2:j <l.length:=by rw[zeb]at hd;omega
   obtain⟨a,ha,hmem⟩:=zA hlt2
   have ra:=zac ha
   have has:=zK hmem
   have h1:=zb2 a (by omega)
   rw[hck a hmem]at h1
   repeat'(first|exact absurd rfl ‹_›|refine zv 0 rfl h1 rfl rfl rfl ?_|refine WL_p hty rfl rfl ?_|refine zh ?_|refine zi ?_|refine za ?_|refine zf ?_|refine ze ?_|refine zd rfl ?_|refine zbZ rfl ?_|refine zl ?_|refine zg ?_|refine WL_m rfl (zm hty rfl rfl rfl (by assumption) rfl) ?_|refine zb rfl ?_|refine zj rfl rfl rfl rfl (fun _=>?_) (fun _=>?_)|refine zk rfl (fun _=>?_) (fun _=>?_))
   refine⟨hlt2,trivial,(zfY ⟨(zz rfl rfl),(zz rfl rfl),(zz rfl rfl),(zz rfl rfl),(zz rfl rfl),(zz rfl rfl),⟨_,rfl,zO ?_ rfl⟩,trivial⟩ trivial)⟩
   exact congrArg (AV.int .i64) ((zy (by omega) (by omega)).trans (by omega))
  ·repeat'(first|refine WL_p hty rfl rfl ?_|refine zh ?_|refine zi ?_|refine za ?_|refine zf ?_|refine ze ?_|refine zd rfl ?_|refine zbZ rfl ?_|refine zl ?_|refine zg ?_|refine WL_m rfl (zm hty rfl rfl rfl (by assumption) rfl) ?_|refine zb rfl ?_|refine zj rfl rfl rfl rfl (fun _=>?_) (fun _=>?_)|refine zk rfl (fun _=>?_) (fun _=>?_))
   refine⟨hlt,trivial,(zfY ⟨(zz rfl rfl),(zz rfl rfl),(zz rfl rfl),⟨_,rfl,zO ?_ rfl⟩,trivial⟩ trivial)⟩
   exact congrArg (AV.int .i64) ((zy (by omega) (by omega)).trans (by omega))
 ·repeat'(first|refine WL_p hty rfl rfl ?_|refine zh ?_|refine zi ?_|refine za ?_|refine zf ?_|refine ze ?_|refine zd rfl ?_|refine zbZ rfl ?_|refine zl ?_|refine zg ?_|refine WL_m rfl (zm hty rfl rfl rfl (by assumption) rfl) ?_|refine zb rfl ?_|refine zj rfl rfl rfl rfl (fun _=>?_) (fun _=>?_)|refine zk rfl (fun _=>?_) (fun _=>?_))
  exact zaQ rfl rfl
set_option maxHeartbeats 4000000 in
theorem zzt(b:Bl)(c:Nat)(con:Cn)(args:List Tm)(hb:b.size≤1048576)(hsh:zaS b=true)(hc:b.cons[c]? =some con)(hl:args.length=con.args.length)(hd:decS b con.sort=true)(hz:sizes args≤1048576)(ha: ∀ a,a∈args→z8 a=0):
 FC Tryz.prog 40 [aB b,.int .i64 (c:Nat),sT args] (.tup [aT (instT con.dec args 0).1,.int .i64 (instT con.dec args 0).2]):=by
 have h1:=znr b hb
 rw[if_pos hsh]at h1
 have h2:=zzw [args] true (by simp) (fun l q=>by obtain rfl:=List.mem_singleton.1 q;exact⟨hz,ha⟩)
 have h3:=zfW con.dec args 0 (by
  have:=zaB (List.mem_of_getElem? hc)
  unfold Bl.size at hb
  have e:con.size=con.dec.size+(con.size-con.dec.size):=by unfold Cn.size;omega
  omega) hz
 have hrc:=zby hc
 have hcl:c <b.cons.length:=(List.getElem?_eq_some_iff.1 hc).1
 have hC:=zZ b.cons
 have hA:=zN con.args
 have hT:=zeb args
 obtain⟨s,hs,hsd,hs0⟩: ∃ s,b.sorts[con.sort.toNat]? =some s∧s.dec=true∧0≤con.sort:=by
  have hco:=zfp hsh (List.mem_of_getElem? hc)
  unfold zel at hco
  simp only[Bool.and_eq_true,inR,decide_eq_true_eq]at hco
  have h0:=hco.1.1
  unfold decS at hd
  split at hd
  ·rename_i s hs;exact⟨s,hs,hd,h0.1⟩
  ·cases hd
 have hrs:=zaK hs
 have hbl:b.cons.length≤1048576:=by
  have:=zak b.cons
  unfold Bl.size at hb;omega
 have hal:args.length≤1048576:=by have:=zM args;omega
 generalize instT con.dec args 0=r at h3
 refine zo hty Tryz.func40 rfl rfl rfl fun w0=>?_
 repeat'(first|exact absurd rfl ‹_›|(exfalso;omega)|refine zD (id:=4) zzn rfl (by kernel_rfl) ?_|refine zv 0 rfl h1 rfl rfl rfl ?_|refine zv 0 rfl h2 rfl rfl rfl ?_|refine zv 0 rfl h3 rfl rfl rfl ?_|refine WE_m rfl (zaq hty rfl rfl rfl (Int.natCast_nonneg _) hrc rfl) ?_|refine WE_m rfl (zaq hty rfl rfl rfl hs0 hrs rfl) ?_|refine WL_m rfl (zaq hty rfl rfl rfl (Int.natCast_nonneg _) hrc rfl) ?_|refine zu (.inl ⟨rfl,zI hty rfl rfl⟩) ?_|refine zu (.inl ⟨rfl,zm hty rfl rfl rfl (by assumption) rfl⟩) ?_|refine zaG rfl rfl ?_|refine zau rfl rfl rfl ?_|refine zav rfl rfl rfl ?_|refine zaw rfl rfl rfl ?_|refine zS ⟨by kernel_rfl,?_⟩|refine WL_p hty rfl rfl ?_|refine zh ?_|refine zi ?_|refine za ?_|refine zf ?_|refine ze ?_|refine zd rfl ?_|refine zbZ rfl ?_|refine zg ?_|refine WL_m rfl (zm hty rfl rfl rfl (by assumption) rfl) ?_|refine zb rfl ?_|refine zj rfl rfl rfl rfl (fun _=>?_) (fun _=>?_)|refine zk rfl (fun _=>?_) (fun _=>?_)|refine zaC rfl rfl rfl rfl (fun _=>?_) (fun _=>?_))
 all_goals first
  |exact absurd ‹(!s.dec)=true› (by rw[hsd];decide)
  |exact zdC rfl rfl rfl
end Go.Proofs.YtoknnfhgoikpiaaGreat
