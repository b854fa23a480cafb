/- A definition's constant is made what its body is made, by one place more; any ot -/
import Derived.Test.YtokfbblhjpfjkaaGreatLNFew
namespace Go.Proofs.YtokfbblhjpfjkaaGreat
set_option linter.unusedSimpArgs false
set_option linter.unusedVariables false
open Go.Aw Go.RowKit
def zAG:List (Nat×List Nat):=[(0,[]),(1,[]),(2,[0,1]),(3,[0,1,2]),(4,[0,1,2,3]),(5,[0,1,2,3]),(6,[0,1,2,3,4,5]),(7,[0,1,2,3,4,5,6]),(8,[0,1,2,3,4,5,6,7]),(9,[0,1,2,3,4,5,6,7,8]),(10,[0,1,2,3,4,5,6,7,8,9]),(11,[0,1,2,3,4,5,6,7,8,9,10]),(12,[0,1,2,3,4,5,6,7,8,9,10,11]),(13,[0,1,2,3,4,5,6,7,8,9,10,11,12]),(14,[0,1,2,3,4,5,6,7,8,9,10,11,12,13]),(15,[0,1,2,3,4,5,6,7,8,9,10,11]),(16,[0,1,2,3,4,5,6,7,8,9,10,11,15]),(17,[0,1,2,3,4,5,6,7,8,9,10,11,15,16]),(18,[0,1,2,3,4,5,6,7,8,9,10,11,15,16,17]),(19,[0,1,2,3,4,5,6,7,8,9,10,11,12,13,14,15,16,17,18]),(20,[0,1,2,3,4,5,6,7,8,9,10,11,12,13,14,15,16,17,18,19]),(21,[0,1,2,3,4,5,6,7,8,9,10,11,12,13,14,15,16,17,18,19,20]),(22,[0,1,2,3,4,5,6,7,8,9,10,11,12,13,14,15,16,17,18,19,20,21]),(23,[0,1,2,3,4,5,6,7,8,9,10,11,12,13,14,15,16,17,18,19,20,21,22]),(24,[0,1,2,3,4,5,6,7,8,9,10,11,12,13,14,15,16,17,18,19,20,21,22,23]),(25,[0,1,2,3,4,5,6,7,8,9,10,11,12,13,14,15,16,17,18,19,20,21,22,23,24]),(26,[0,1,2,3,4,5,6,7,8,9,10,11,12,13,14,15,16,17,18,19,20,21,22,23,24,25]),(27,[0,1,2,3,4,5,6,7,8,9,10,11,12,13,14,15,16,17,18,19,20,21,22,23,24,25,26]),(28,[0,1,2,3,4,5,6,7,8,9,10,11,12,13,14,15,16,17,18,19,20,21,22,23,24,25,26,27]),(29,[0,1,2,3,4,5,6,7,8,9,10,11,12,13,14,15,16,17,18,19,20,21,22,23,24,25,26,27,28]),(30,[0,1,2,3,4,5,6,7,8,9,10,11,12,13,14,15,16,17,18,19,20,21,22,23,24,25,26,27,28,29]),(31,[0,1,2,3,4,5,6,7,8,9,10,11,12,13,14,15,16,17,18,19,20,21,22,23,24,25,26,27,28,29,30]),(32,[0,1,2,3,4,5,6,7,8,9,10,11,12,13,14,15,16,17,18,19,20,21,22,23,24,25,26,27,28,29,30,31]),(33,[0,1,2,3,4,5,6,7,8,9,10,11,12,13,14,15,16,17,18,19,20,21,22,23,24,25,26,27,28]),(34,[0,1,2,3,4,5,6,7,8,9,10,11,12,13,14,15,16,17,18,19,20,21,22,23,24,25,26,27,28,29,30,31,32,33]),(35,[0,1,2,3,4,5,6,7,8,9,10,11,12,13,14,15,16,17,18,19,20,21,22,23,24,25,26,27,28,29,30,31,32,33,34]),(36,[0,1,2,3,4,5,6,7,8,9,10,11,12,13,14,15,16,17,18,19,20,21,22,23,24,25,26,27,28,29,30,31,32,33,34,35]),(37,[0,1,2,3,4,5,6,7,8,9,10,11,12,13,14,15,16,17,18,19,20,21,22,23,24,25,26,27,28,29,30,31,32,33,34,35,36]),(38,[0,1,2,3,4,5,6,7,8,9,10,11,12,13,14,15,16,17,18,19,20,21,22,23,24,25,26,27,28,29,30,31,32,33,34,35,36,37]),(39,[0,1,2,3,4,5,6,7,8,9,10,11,12,13,14,15,16,17,18,19,20,21,22,23,24,25,26,27,28,29,30,31,32,33,34,35,36,37,38]),(40,[0,1,2,3,4,5,6,7,8,9,10,11,12,13,14,15,16,17,18,19,20,21,22,23,24,25,26,27,28,29,30,31,32,33,34,35,36,37,38,39]),(41,[0,1,2,3,4,5,6,7,8,9,10,11,12,13,14,15,16,17,18,19,20,21,22,23,24,25,26,27,28,29,30,31,32,33,34,35,36,37,38,39,40])]
def zCa:List (Nat×List Nat):=[(0,[]),(1,[0]),(2,[0,1]),(3,[0,1,2]),(4,[0,1,2,3]),(5,[0,1,2,3,4]),(6,[0,1,2,3,4,5]),(7,[0,1,2,3,4,5,6]),(8,[0,1,2,3,4,5,6,7]),(9,[0,1,2,3,4,5,6,7,8]),(10,[0,1,2,3,4,5,6,7,8]),(11,[0,1,2,3,4,5,6,7,8,10]),(12,[0,1,2,3,4,5,6,7,8,9,10,11]),(13,[0,1,2,3,4,5,6,7,8,9,10,11,12]),(14,[0,1,2,3,4,5,6,7,8,9,10,11,12,13]),(15,[0,1,2,3,4,5,6,7,8,9,10,11,12,13,14]),(16,[0,1,2,3,4,5,6,7,8,9,10,11,12,13,14,15]),(17,[0,1,2,3,4,5,6,7,8,9,10,11,12,13,14,15,16])]
attribute [local irreducible] WL AC WD WE MStep OkOp
attribute [local irreducible] zfd zvN
set_option maxHeartbeats 16000000 in
theorem zA0(l:List En)(n:Int)(h:zbJ l≤1048576):FC Tryz.prog 4 [sE l,.int .i64 n] (.bool true):=by
 have h1:=znh l h
 have h2:=zrl l h
 have hlen:=zbU l
 have hw:=zyT
 have hlk:=zuW l h
 by_cases c1:zjk l=true
 ·rw[c1]at h1
  refine zo hty Tryz.func4 rfl rfl rfl fun w0=>?_
  repeat'(first|refine zv 0 rfl h1 rfl rfl rfl ?_|refine WL_p hty rfl rfl ?_|refine zh ?_|refine zi ?_|refine za ?_|refine ze ?_|refine zd rfl ?_|refine zbZ rfl ?_|refine zg ?_|refine zx rfl rfl ?_|refine zq rfl rfl rfl ?_|refine zot rfl rfl rfl ?_|refine zr rfl rfl rfl ?_|refine WL_m rfl (zm hty rfl rfl rfl (by assumption) rfl) ?_|refine zb rfl ?_|refine zj rfl rfl rfl rfl (fun _=>?_) (fun _=>?_)|refine zk rfl (fun _=>?_) (fun _=>?_))
  rfl
 have c1:zjk l=false:=by simpa using c1
 rw[c1]at h1
 by_cases c2:l.length=0
 ·have c2':((rsE l).length:Int)=0:=by rw[zaW];omega
  refine zo hty Tryz.func4 rfl rfl rfl fun w0=>?_
  repeat'(first|exact absurd c2' ‹_›|refine zv 0 rfl h1 rfl rfl rfl ?_|refine WL_p hty rfl rfl ?_|refine zh ?_|refine zi ?_|refine za ?_|refine ze ?_|refine zd rfl ?_|refine zbZ rfl ?_|refine zg ?_|refine zx rfl rfl ?_|refine zq rfl rfl rfl ?_|refine zot rfl rfl rfl ?_|refine zr rfl rfl rfl ?_|refine WL_m rfl (zm hty rfl rfl rfl (by assumption) rfl) ?_|refine zb rfl ?_|refine zj rfl rfl rfl rfl (fun _=>?_) (fun _=>?_)|refine zk rfl (fun _=>?_) (fun _=>?_))
  rfl
 have c2': ¬((rsE l).length:Int)=0:=by rw[zaW];omega
 by_cases c3:envI l=0
 case neg=>
  refine zo hty Tryz.func4 rfl rfl rfl fun w0=>?_
  repeat'(first|exact absurd (by assumption) c2'|exact absurd c3 ‹_›|refine zv 0 rfl h1 rfl rfl rfl ?_|refine zv 0 rfl h2 rfl rfl rfl ?_|refine WL_p hty rfl rfl ?_|refine zh ?_|refine zi ?_|refine za ?_|refine ze ?_|refine zd rfl ?_|refine zbZ rfl ?_|refine zg ?_|refine zx rfl rfl ?_|refine zq rfl rfl rfl ?_|refine zot rfl rfl rfl ?_|refine zr rfl rfl rfl ?_|refine WL_m rfl (zm hty rfl rfl rfl (by assumption) rfl) ?_|refine zb rfl ?_|refine zj rfl rfl rfl rfl (fun _=>?_) (fun _=>?_)|refine zk rfl (fun _=>?_) (fun _=>?_))
  rfl
 rw[c3]at h2 hlk
 obtain⟨hm0,k,hk,hke⟩:=zyq n (m:=l.length) (by omega) (by omega)
 obtain⟨e,he,hmem⟩:=zA hk
 have hes:=zbn hmem
 have hes':e.size=e.typ.size+e.body.size+e.block.size:=rfl
 rw[←zaW l]at hm0
 have raw:IntKind.i64.wrap ((IntKind.u64.wrap n).tmod (IntKind.u64.wrap ((rsE l).length:Nat)))=(k:Int):=by
  rw[zaW]
  show zyH n l.length=_
  exact hke
 have n0:0≤IntKind.i64.wrap ((IntKind.u64.wrap n).tmod (IntKind.u64.wrap ((rsE l).length:Nat))):=by rw[raw];omega
 have re:(rsE l)[(IntKind.i64.wrap ((IntKind.u64.wrap n).tmod (IntKind.u64.wrap ((rsE l).length:Nat)))).toNat]? =some (cE e):=by rw[raw];exact zeM he
 have hA:=zxV hlk (.mk 3 (k:Int) []) 120 (by simp[Tm.size,sizes])
 by_cases hkd:e.kind=2
 ·rw[zBY c3 he hkd]at hA
  have hB:=zxV hlk e.body 119 (by omega)
  by_cases e0:(normR 0 (lookR l) e.body 119).2.2=0
  ·obtain⟨_,hct,hch,hpf⟩:=zzb e0 (by omega) (by omega)
   rw[if_pos e0]at hA
   have hR:normR 0 (lookR l) e.body 119=((normR 0 (lookR l) e.body 119).1,(normR 0 (lookR l) e.body 119).2.1,0):=Prod.ext rfl (Prod.ext rfl e0)
   rw[hR]at hB
   generalize (normR 0 (lookR l) e.body 119).1=y at hA hB hch
   generalize (normR 0 (lookR l) e.body 119).2.1=q at hA hB hch hpf
   clear hR e0
   obtain⟨hcy,hpp⟩:=zyf hch hct
   have sy:=(zcH hcy).1
   have kT:=zpx y (by omega)
   have kq:=zyY q (by omega) (fun x hx=>by have:=hpp x hx;omega)
   have kq2:FC Tryz.prog 26 [.agg [.lst 1 (((rsP ([]::q)).take (rsP ([]::q)).length).drop 1) false],.agg [sP q]] (.bool true):=by rw[List.take_length];exact kq
   have lq:=zwC q
   have lp:(rsP ([]::q)).length=(rsP q).length+1:=by rw[zwC,zwC];rfl
   have hw2:IntKind.i64.wrap (((rsP q).length:Int)+1)=((rsP ([]::q)).length:Int):=(zy (by omega) (by omega)).trans (by omega)
   have rp:(rsP ([]::q))[0]? =some [sI []]:=rfl
   clear hch hpp
   dsimp only[goV]at hA hB
   rw[←raw]at hA
   refine zo hty Tryz.func4 rfl rfl rfl fun w0=>?_
   repeat'(first|exact absurd (by assumption) c2'|exact absurd rfl ‹_›|exact absurd hkd ‹_›|exact absurd hw2.symm ‹_›|(refine zhH (id:=5) ?_;refine zab (zfY (l:=[(0,_),(1,_),(5,_),(6,_),(7,_)]) (bl:=[(5,_),(6,_)]) ⟨(zz rfl rfl),(zz rfl rfl),(zz rfl rfl),(zz rfl rfl),(zz rfl rfl),trivial⟩ ⟨(zw rfl rfl),(zw rfl rfl),trivial⟩) ?_;refine za ?_)|(refine zhH (id:=7) ?_;refine zab (zfY (l:=[(0,_),(1,_),(5,_),(6,_),(7,_)]) (bl:=[(5,_),(6,_)]) ⟨(zz rfl rfl),(zz rfl rfl),(zz rfl rfl),(zz rfl rfl),(zz rfl rfl),trivial⟩ ⟨(zw rfl rfl),(zw rfl rfl),trivial⟩) ?_;refine za ?_)|(refine zhH (id:=8) ?_;refine zab (zfY (l:=[(5,_),(6,_),(7,_),(8,_),(9,_),(10,_)]) (bl:=[(5,_),(6,_),(8,_),(9,_)]) ⟨(zz rfl rfl),(zz rfl rfl),(zz rfl rfl),(zz rfl rfl),(zz rfl rfl),(zz rfl rfl),trivial⟩ ⟨(zw rfl rfl),(zw rfl rfl),(zw rfl rfl),(zw rfl rfl),trivial⟩) ?_;refine zD (id:=8) zAG rfl (by kernel_rfl) ?_)|refine zv 0 rfl h1 rfl rfl rfl ?_|refine zv 0 rfl h2 rfl rfl rfl ?_|refine WL_m rfl (zx2 rfl zyX zy0 rfl) ?_|refine WL_m rfl (zx2 rfl zyZ zy2 rfl) ?_|refine WL_m rfl (zyW rfl rfl hm0 rfl) ?_|refine zv 0 rfl (zx0 _) rfl rfl rfl ?_|refine zv 0 rfl hA rfl rfl rfl ?_|refine zv 0 rfl hB rfl rfl rfl ?_|refine WL_m rfl (zaq hty rfl rfl rfl n0 re rfl) ?_|refine zad 0 rfl kT rfl rfl rfl ?_|refine zbc rfl (zaq hty rfl rfl rfl (Int.le_refl 0) rp rfl) ?_|refine zu (.inl ⟨rfl,zbO hty (rows:=rsP ([]::q)) 1 (rsP ([]::q)).length rfl rfl ⟨_,_,rfl,rfl⟩ rfl (by omega) (Nat.le_refl _) rfl⟩) ?_|refine zad 0 rfl kq2 rfl rfl rfl ?_|refine zad 0 rfl hw rfl rfl rfl ?_|refine zu (.inl ⟨rfl,zI hty rfl rfl⟩) ?_|refine zu (.inl ⟨rfl,zm hty rfl rfl rfl (by assumption) rfl⟩) ?_|refine zaG rfl rfl ?_|refine zau rfl rfl rfl ?_|refine zav rfl rfl rfl ?_|refine zaw rfl rfl rfl ?_|refine zS ⟨by kernel_rfl,?_⟩|refine WL_p hty rfl rfl ?_|refine zh ?_|refine zi ?_|refine za ?_|refine ze ?_|refine zd rfl ?_|refine zbZ rfl ?_|refine zg ?_|refine zx rfl rfl ?_|refine zq rfl rfl rfl ?_|refine zot rfl rfl rfl ?_|refine zr rfl rfl rfl ?_|refine WL_m rfl (zm hty rfl rfl rfl (by assumption) rfl) ?_|refine zb rfl ?_|refine zj rfl rfl rfl rfl (fun _=>?_) (fun _=>?_)|refine zk rfl (fun _=>?_) (fun _=>?_)|refine zaC rfl rfl rfl rfl (fun _=>?_) (fun _=>?_))
   all_goals rfl
  ·rw[if_neg e0]at hA
   obtain⟨z1,z2⟩:=zy6 e0
   have hR:normR 0 (lookR l) e.body 119=(zT,[],(normR 0 (lookR l) e.body 119).2.2):=by
    generalize normR 0 (lookR l) e.body 119=r at z1 z2⊢
    obtain⟨x,y,z⟩:=r
    simp only at z1 z2
    rw[z1,z2]
   rw[hR]at hB
   generalize (normR 0 (lookR l) e.body 119).2.2=er at hA hB e0
   have kT:=zpx zT (by decide)
   dsimp only[goV]at hA hB
   rw[←raw]at hA
   refine zo hty Tryz.func4 rfl rfl rfl fun w0=>?_
   repeat'(first|exact absurd (by assumption) c2'|exact absurd rfl ‹_›|exact absurd hkd ‹_›|exact absurd (by assumption) e0|exact absurd e0 (by assumption)|(refine zhH (id:=5) ?_;refine zab (zfY (l:=[(0,_),(1,_),(5,_),(6,_),(7,_)]) (bl:=[(5,_),(6,_)]) ⟨(zz rfl rfl),(zz rfl rfl),(zz rfl rfl),(zz rfl rfl),(zz rfl rfl),trivial⟩ ⟨(zw rfl rfl),(zw rfl rfl),trivial⟩) ?_;refine za ?_)|(refine zhH (id:=7) ?_;refine zab (zfY (l:=[(0,_),(1,_),(5,_),(6,_),(7,_)]) (bl:=[(5,_),(6,_)]) ⟨(zz rfl rfl),(zz rfl rfl),(zz rfl rfl),(zz rfl rfl),(zz rfl rfl),trivial⟩ ⟨(zw rfl rfl),(zw rfl rfl),trivial⟩) ?_;refine za ?_)|(refine zhH (id:=8) ?_;refine zab (zfY (l:=[(5,_),(6,_),(7,_),(8,_),(9,_),(10,_)]) (bl:=[(5,_),(6,_),(8,_),(9,_)]) ⟨(zz rfl rfl),(zz rfl rfl),(zz rfl rfl),(zz rfl rfl),(zz rfl rfl),(zz rfl rfl),trivial⟩ ⟨(zw rfl rfl),(zw rfl rfl),(zw rfl rfl),(zw rfl rfl),trivial⟩) ?_;refine zD (id:=8) zAG rfl (by kernel_rfl) ?_)|refine zv 0 rfl h1 rfl rfl rfl ?_|refine zv 0 rfl h2 rfl rfl rfl ?_|refine WL_m rfl (zx2 rfl zyX zy0 rfl) ?_|refine WL_m rfl (zx2 rfl zyZ zy2 rfl) ?_|refine WL_m rfl (zyW rfl rfl hm0 rfl) ?_|refine zv 0 rfl (zx0 _) rfl rfl rfl ?_|refine zv 0 rfl hA rfl rfl rfl ?_|refine zv 0 rfl hB rfl rfl rfl ?_|refine WL_m rfl (zaq hty rfl rfl rfl n0 re rfl) ?_|refine zad 0 rfl kT rfl rfl rfl ?_|refine zad 0 rfl hw rfl rfl rfl ?_|refine zu (.inl ⟨rfl,zI hty rfl rfl⟩) ?_|refine zu (.inl ⟨rfl,zm hty rfl rfl rfl (by assumption) rfl⟩) ?_|refine zaG rfl rfl ?_|refine zau rfl rfl rfl ?_|refine zav rfl rfl rfl ?_|refine zaw rfl rfl rfl ?_|refine zS ⟨by kernel_rfl,?_⟩|refine WL_p hty rfl rfl ?_|refine zh ?_|refine zi ?_|refine za ?_|refine ze ?_|refine zd rfl ?_|refine zbZ rfl ?_|refine zg ?_|refine zx rfl rfl ?_|refine zq rfl rfl rfl ?_|refine zot rfl rfl rfl ?_|refine zr rfl rfl rfl ?_|refine WL_m rfl (zm hty rfl rfl rfl (by assumption) rfl) ?_|refine zb rfl ?_|refine zj rfl rfl rfl rfl (fun _=>?_) (fun _=>?_)|refine zk rfl (fun _=>?_) (fun _=>?_)|refine zaC rfl rfl rfl rfl (fun _=>?_) (fun _=>?_))
   all_goals rfl
 ·rw[zBX c3 he hkd]at hA
  have kT:=zpx (.mk 3 (k:Int) []) (by simp[Tm.size,sizes])
  dsimp only[goV]at hA
  rw[←raw]at hA kT
  refine zo hty Tryz.func4 rfl rfl rfl fun w0=>?_
  repeat'(first|exact absurd (by assumption) c2'|exact absurd rfl ‹_›|exact absurd (by assumption) hkd|exact absurd hkd (by assumption)|(refine zhH (id:=5) ?_;refine zab (zfY (l:=[(0,_),(1,_),(5,_),(6,_),(7,_)]) (bl:=[(5,_),(6,_)]) ⟨(zz rfl rfl),(zz rfl rfl),(zz rfl rfl),(zz rfl rfl),(zz rfl rfl),trivial⟩ ⟨(zw rfl rfl),(zw rfl rfl),trivial⟩) ?_;refine za ?_)|(refine zhH (id:=6) ?_;refine zab (zfY (l:=[(1,_),(5,_),(6,_),(7,_)]) (bl:=[(5,_),(6,_)]) ⟨(zz rfl rfl),(zz rfl rfl),(zz rfl rfl),(zz rfl rfl),trivial⟩ ⟨(zw rfl rfl),(zw rfl rfl),trivial⟩) ?_;refine zD (id:=6) zCa rfl (by kernel_rfl) ?_)|refine zv 0 rfl h1 rfl rfl rfl ?_|refine zv 0 rfl h2 rfl rfl rfl ?_|refine WL_m rfl (zx2 rfl zyX zy0 rfl) ?_|refine WL_m rfl (zx2 rfl zyZ zy2 rfl) ?_|refine WL_m rfl (zyW rfl rfl hm0 rfl) ?_|refine zv 0 rfl (zx0 _) rfl rfl rfl ?_|refine zad 0 rfl (zx0 _) rfl rfl rfl ?_|refine zv 0 rfl hA rfl rfl rfl ?_|refine WL_m rfl (zaq hty rfl rfl rfl n0 re rfl) ?_|refine zad 0 rfl kT rfl rfl rfl ?_|refine zad 0 rfl hw rfl rfl rfl ?_|refine zu (.inl ⟨rfl,zI hty rfl rfl⟩) ?_|refine zu (.inl ⟨rfl,zm hty rfl rfl rfl (by assumption) rfl⟩) ?_|refine zaG rfl rfl ?_|refine zau rfl rfl rfl ?_|refine zav rfl rfl rfl ?_|refine zaw rfl rfl rfl ?_|refine zS ⟨by kernel_rfl,?_⟩|refine WL_p hty rfl rfl ?_|refine zh ?_|refine zi ?_|refine za ?_|refine ze ?_|refine zd rfl ?_|refine zbZ rfl ?_|refine zg ?_|refine zx rfl rfl ?_|refine zq rfl rfl rfl ?_|refine zot rfl rfl rfl ?_|refine zr rfl rfl rfl ?_|refine WL_m rfl (zm hty rfl rfl rfl (by assumption) rfl) ?_|refine zb rfl ?_|refine zj rfl rfl rfl rfl (fun _=>?_) (fun _=>?_)|refine zk rfl (fun _=>?_) (fun _=>?_)|refine zaC rfl rfl rfl rfl (fun _=>?_) (fun _=>?_))
  all_goals rfl
end Go.Proofs.YtokfbblhjpfjkaaGreat
