/- Each place of a trace is the first one of what the term is by then; behind the l -/
import Derived.Test.YtokfbblhjpfjkaaGreatGO
import Derived.Test.YtokfbblhjpfjkaaGreatGN
import Derived.Test.YtokfbblhjpfjkaaGreatGH
namespace Go.Proofs.YtokfbblhjpfjkaaGreat
set_option linter.unusedSimpArgs false
set_option linter.unusedVariables false
open Go.Aw Go.RowKit
def zAn:List (Nat×List Nat):=[(0,[]),(1,[]),(2,[]),(3,[2]),(4,[0,1,2,3]),(5,[0,1,2,3,4]),(6,[0,1,2,3,4,5]),(7,[0,1,2,3,4,5]),(8,[0,1,2,3,4,5]),(9,[]),(10,[]),(11,[0,1,2,3,4,5,6,9,10]),(12,[0,1,2,3,4,5,6,7,9,10,11]),(13,[0,1,2,3,4,5,6,7,8,9,10,11,12])]
attribute [local irreducible] WL AC WD WE MStep OkOp
attribute [local irreducible] zfd zvN
def zwP(lk:Tm→Option (Tm×Int))(t:Tm)(l:List (List Int)):Tm:=l.foldl (fun x p=>(makeR lk x p).1) t
theorem zBE{lk:Tm→Option (Tm×Int)}{t:Tm}{l:List (List Int)}{i:Nat}{p:List Int}(h:l[i]? =some p):zwP lk t (l.take (i+1))=(makeR lk (zwP lk t (l.take i)) p).1:=by
 rw[List.take_add_one,h,Option.toList_some];simp[zwP]
theorem zz2{lk:Tm→Option (Tm×Int)}{a:Tm}: ∀ {l:List (List Int)} {t:Tm},z8 t=0→zw9 lk t l a→ ∀ i,i≤l.length→zw9 lk (zwP lk t (l.take i)) (l.drop i) a∧z8 (zwP lk t (l.take i))=0
 |l,t,hc,h,0,_=>⟨h,hc⟩
 |[],_,_,_,i+1,hi=>by simp at hi
 |p::l,t,hc,h,i+1,hi=>by
  obtain⟨h1,h2,h3⟩:=h
  exact zz2 (zxq h2) h3 i (by simpa using hi)
theorem zB5{lk:Tm→Option (Tm×Int)}{a t:Tm}{l:List (List Int)}{i:Nat}{p:List Int}(hp:l[i]? =some p)(h:zw9 lk t (l.drop i) a):zc0 lk t=some p∧(makeR lk t p).2=0:=by
 have hi:=(List.getElem?_eq_some_iff.1 hp).1
 rw[List.drop_eq_getElem_cons hi]at h
 have e:l[i]=p:=(List.getElem?_eq_some_iff.1 hp).2
 rw[e]at h
 exact⟨h.1,h.2.1⟩
set_option maxHeartbeats 16000000 in
theorem zAL(env:List En)(t:Tm)(fuel:Int)(h:zbJ env+t.size≤1048576):FC Tryz.prog 7 [sE env,aT t,.int .i64 fuel] (.bool true):=by
 have he:=znh env (by omega)
 have hv:=zfj t (by omega)
 have hw:=zyT
 have hlk:=zuW env (by omega)
 have f1:=zy9 fuel
 obtain⟨b1,b2⟩:=zzc fuel
 generalize fuelI fuel=F at f1 b1 b2
 have hA:=zxV hlk t F (by omega)
 by_cases e0:(normR (envI env) (lookR env) t F).2.2=0
 ·obtain⟨hck,hct,hch,hpf⟩:=zzb e0 b1 (by omega)
  have hR:normR (envI env) (lookR env) t F=((normR (envI env) (lookR env) t F).1,(normR (envI env) (lookR env) t F).2.1,0):=Prod.ext rfl (Prod.ext rfl e0)
  rw[hR]at hA
  rw[hck]at hlk
  generalize (normR (envI env) (lookR env) t F).1=a at hA hch
  generalize (normR (envI env) (lookR env) t F).2.1=p at hA hch hpf
  clear hR e0
  obtain⟨hca,hpp⟩:=zyf hch hct
  obtain⟨c1,_,_⟩:=zcH hca
  have hpl:=zwC p
  have ka:=zpx a (by omega)
  dsimp only[goV]at hA
  refine zo hty Tryz.func7 rfl rfl rfl fun w0=>?_
  repeat'(first|exact absurd rfl ‹_›|(refine zhH (id:=3) ?_;refine zab (zfY (l:=[(0,_),(2,_),(4,_)]) (bl:=[(4,_)]) ⟨(zz rfl rfl),(zz rfl rfl),(zz rfl rfl),trivial⟩ ⟨(zw rfl rfl),trivial⟩) ?_;refine zD (id:=3) zAn rfl (by kernel_rfl) ?_)|(refine zhH (id:=4) ?_;refine zab (zfY (l:=[(0,_),(4,_),(7,_),(8,_),(9,_)]) (bl:=[(4,_),(7,_),(8,_)]) ⟨(zz rfl rfl),(zz rfl rfl),(zz rfl rfl),(zz rfl rfl),(zz rfl rfl),trivial⟩ ⟨(zw rfl rfl),(zw rfl rfl),(zw rfl rfl),trivial⟩) ?_;refine za ?_)|refine zL rfl he rfl (fun _=>?_) (fun _=>?_)|refine zL rfl hv rfl (fun _=>?_) (fun _=>?_)|refine zad 0 rfl f1 rfl rfl rfl ?_|refine zad 0 rfl hA rfl rfl rfl ?_|refine zu (.inl ⟨rfl,zI hty rfl rfl⟩) ?_|refine zS ⟨by kernel_rfl,?_⟩|refine WL_p hty rfl rfl ?_|refine zh ?_|refine zi ?_|refine za ?_|refine zf ?_|refine ze ?_|refine zd rfl ?_|refine zbZ rfl ?_|refine zl ?_|refine zg ?_|refine zx rfl rfl ?_|refine zq rfl rfl rfl ?_|refine zot rfl rfl rfl ?_|refine zr rfl rfl rfl ?_|refine WL_m rfl (zm hty rfl rfl rfl (by assumption) rfl) ?_|refine zb rfl ?_|refine zj rfl rfl rfl rfl (fun _=>?_) (fun _=>?_)|refine zk rfl (fun _=>?_) (fun _=>?_))
  all_goals try rfl
  refine zW p.length (fun _=>True) (fun i=>⟨envOf [(0,sE env),(7,.ptr 7 0),(8,.ptr 8 0),(10,.ptr 10 0),(11,.int .i64 (i:Nat))],
   bkOf [(7,.box (cT a)),(8,.box [sP p]),(10,.box (cT (zwP (lookR env) t (p.take i))))]⟩) (zfY ⟨(zz rfl rfl),(zz rfl rfl),(zz rfl rfl),(zz rfl rfl),(zz rfl rfl),trivial⟩ ⟨(zw rfl rfl),(zw rfl rfl),(zw rfl rfl),trivial⟩) trivial ?_
  intro i hi _
  obtain⟨hci,hki⟩:=zz2 hct hch i hi
  obtain⟨d1,_,d3⟩:=zcH hki
  have hF:=zps hlk (zwP (lookR env) t (p.take i)) (by omega)
  have hFe:zfv 0 (lookR env) (zwP (lookR env) t (p.take i))=zc0 (lookR env) (zwP (lookR env) t (p.take i)):=by unfold zfv;rw[if_neg (by omega),if_neg (by omega)]
  rw[hFe]at hF
  repeat'(first|refine WL_p hty rfl rfl ?_|refine zh ?_|refine zi ?_|refine za ?_|refine zf ?_|refine ze ?_|refine zd rfl ?_|refine zbZ rfl ?_|refine zl ?_|refine zg ?_|refine zx rfl rfl ?_|refine zq rfl rfl rfl ?_|refine zot rfl rfl rfl ?_|refine zr rfl rfl rfl ?_|refine WL_m rfl (zm hty rfl rfl rfl (by assumption) rfl) ?_|refine zb rfl ?_)
  refine zj rfl rfl rfl rfl (fun hc=>?_) (fun hc=>?_)
  ·have hlt:i <p.length:=by rw[zwC]at hc;omega
   obtain⟨x,hx,hmem⟩:=zA hlt
   have rx:=zyt hx
   have hxl:=hpp x hmem
   obtain⟨g1,g2⟩:=zB5 hx hci
   have hD:=zgV hlk (zwP (lookR env) t (p.take i)) x (by omega) (by omega)
   rw[zpi 0 (lookR env) _ x rfl hki,if_neg (by omega), ←zBE hx]at hD
   rw[g1]at hF
   have ki:=zyj x (by omega)
   repeat'(first|exact absurd rfl ‹_›|refine zv 0 rfl hF rfl rfl rfl ?_|refine zv 0 rfl hD rfl rfl rfl ?_|refine zv 0 rfl ki rfl rfl rfl ?_|(refine zhH (id:=11) ?_;refine zab (zfY (l:=[(0,_),(7,_),(8,_),(10,_),(11,_),(12,_),(13,_)]) (bl:=[(7,_),(8,_),(10,_)]) ⟨(zz rfl rfl),(zz rfl rfl),(zz rfl rfl),(zz rfl rfl),(zz rfl rfl),(zz rfl rfl),(zz rfl rfl),trivial⟩ ⟨(zw rfl rfl),(zw rfl rfl),(zw rfl rfl),trivial⟩) ?_;refine za ?_)|(refine zhH (id:=12) ?_;refine zab (zfY (l:=[(0,_),(7,_),(8,_),(10,_),(11,_),(12,_),(13,_),(14,_),(15,_)]) (bl:=[(7,_),(8,_),(10,_),(14,_)]) ⟨(zz rfl rfl),(zz rfl rfl),(zz rfl rfl),(zz rfl rfl),(zz rfl rfl),(zz rfl rfl),(zz rfl rfl),(zz rfl rfl),(zz rfl rfl),trivial⟩ ⟨(zw rfl rfl),(zw rfl rfl),(zw rfl rfl),(zw rfl rfl),trivial⟩) ?_;refine za ?_)|(refine zhH (id:=14) ?_;refine zab (zfY (l:=[(0,_),(7,_),(8,_),(10,_),(11,_),(14,_)]) (bl:=[(7,_),(8,_),(10,_),(14,_)]) ⟨(zz rfl rfl),(zz rfl rfl),(zz rfl rfl),(zz rfl rfl),(zz rfl rfl),(zz rfl rfl),trivial⟩ ⟨(zw rfl rfl),(zw rfl rfl),(zw rfl rfl),(zw rfl rfl),trivial⟩) ?_;refine za ?_)|refine WL_p hty rfl rfl ?_|refine zh ?_|refine zi ?_|refine za ?_|refine zf ?_|refine ze ?_|refine zd rfl ?_|refine zbZ rfl ?_|refine zl ?_|refine zg ?_|refine zx rfl rfl ?_|refine zq rfl rfl rfl ?_|refine zot rfl rfl rfl ?_|refine zr rfl rfl rfl ?_|refine WL_m rfl (zm hty rfl rfl rfl (by assumption) rfl) ?_|refine zb rfl ?_|refine zj rfl rfl rfl rfl (fun _=>?_) (fun _=>?_)|refine zk rfl (fun _=>?_) (fun _=>?_))
   refine⟨hlt,trivial,(zfY ⟨(zz rfl rfl),(zz rfl rfl),(zz rfl rfl),(zz rfl rfl),⟨_,rfl,zO ?_ rfl⟩,trivial⟩ ⟨(zw rfl rfl),(zw rfl rfl),(zw rfl rfl),trivial⟩)⟩
   exact congrArg (AV.int .i64) ((zy (by omega) (by omega)).trans (by omega))
  ·obtain rfl:i=p.length:=by rw[zwC]at hc;omega
   rw[List.drop_length]at hci
   obtain⟨h1,h2⟩:=hci
   rw[h1]at hF⊢
   rw[h2]at hF
   repeat'(first|exact absurd rfl ‹_›|refine zv 0 rfl hF rfl rfl rfl ?_|refine zv 0 rfl ka rfl rfl rfl ?_|refine zv 0 rfl hw rfl rfl rfl ?_|refine WL_p hty rfl rfl ?_|refine zh ?_|refine zi ?_|refine za ?_|refine zf ?_|refine ze ?_|refine zd rfl ?_|refine zbZ rfl ?_|refine zl ?_|refine zg ?_|refine zx rfl rfl ?_|refine zq rfl rfl rfl ?_|refine zot rfl rfl rfl ?_|refine zr rfl rfl rfl ?_|refine WL_m rfl (zm hty rfl rfl rfl (by assumption) rfl) ?_|refine zb rfl ?_|refine zj rfl rfl rfl rfl (fun _=>?_) (fun _=>?_)|refine zk rfl (fun _=>?_) (fun _=>?_))
   all_goals rfl
 ·obtain⟨z1,z2⟩:=zy6 e0
  have hR:normR (envI env) (lookR env) t F=(zT,[],(normR (envI env) (lookR env) t F).2.2):=by
   generalize normR (envI env) (lookR env) t F=r at z1 z2⊢
   obtain⟨x,y,z⟩:=r
   simp only at z1 z2
   rw[z1,z2]
  rw[hR]at hA
  generalize (normR (envI env) (lookR env) t F).2.2=e at hA e0
  dsimp only[goV]at hA
  refine zo hty Tryz.func7 rfl rfl rfl fun w0=>?_
  repeat'(first|exact absurd rfl ‹_›|exact absurd (by assumption) e0|exact absurd e0 (by assumption)|(refine zhH (id:=3) ?_;refine zab (zfY (l:=[(0,_),(2,_),(4,_)]) (bl:=[(4,_)]) ⟨(zz rfl rfl),(zz rfl rfl),(zz rfl rfl),trivial⟩ ⟨(zw rfl rfl),trivial⟩) ?_;refine zD (id:=3) zAn rfl (by kernel_rfl) ?_)|(refine zhH (id:=4) ?_;refine zab (zfY (l:=[(0,_),(4,_),(7,_),(8,_),(9,_)]) (bl:=[(4,_),(7,_),(8,_)]) ⟨(zz rfl rfl),(zz rfl rfl),(zz rfl rfl),(zz rfl rfl),(zz rfl rfl),trivial⟩ ⟨(zw rfl rfl),(zw rfl rfl),(zw rfl rfl),trivial⟩) ?_;refine za ?_)|refine zL rfl he rfl (fun _=>?_) (fun _=>?_)|refine zL rfl hv rfl (fun _=>?_) (fun _=>?_)|refine zad 0 rfl f1 rfl rfl rfl ?_|refine zad 0 rfl hA rfl rfl rfl ?_|refine zv 0 rfl hw rfl rfl rfl ?_|refine zu (.inl ⟨rfl,zI hty rfl rfl⟩) ?_|refine zS ⟨by kernel_rfl,?_⟩|refine WL_p hty rfl rfl ?_|refine zh ?_|refine zi ?_|refine za ?_|refine zf ?_|refine ze ?_|refine zd rfl ?_|refine zbZ rfl ?_|refine zl ?_|refine zg ?_|refine zx rfl rfl ?_|refine zq rfl rfl rfl ?_|refine zot rfl rfl rfl ?_|refine zr rfl rfl rfl ?_|refine WL_m rfl (zm hty rfl rfl rfl (by assumption) rfl) ?_|refine zb rfl ?_|refine zj rfl rfl rfl rfl (fun _=>?_) (fun _=>?_)|refine zk rfl (fun _=>?_) (fun _=>?_))
  all_goals rfl
end Go.Proofs.YtokfbblhjpfjkaaGreat
