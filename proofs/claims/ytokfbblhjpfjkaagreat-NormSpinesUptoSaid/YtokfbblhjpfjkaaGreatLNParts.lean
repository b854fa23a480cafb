/- A normal term's parts are normal; a type's parts made normal make it normal. -/
import Derived.Test.YtokfbblhjpfjkaaGreatLNFew
namespace Go.Proofs.YtokfbblhjpfjkaaGreat
set_option linter.unusedSimpArgs false
set_option linter.unusedVariables false
open Go.Aw Go.RowKit
def zAm:List (Nat×List Nat):=[(0,[]),(1,[]),(2,[]),(3,[2]),(4,[0,1,2,3]),(5,[0,1,2,3,4]),(6,[0,1,2,3,4,5]),(7,[0,1,2,3,4,5]),(8,[0,1,2,3,4,5]),(9,[]),(10,[]),(11,[0,1,2,3,4,5,6,9,10]),(12,[0,1,2,3,4,5,6,7,9,10,11]),(13,[0,1,2,3,4,5,6,7,8,9,10,11,12])]
def zBm:List (Nat×List Nat):=[(0,[]),(1,[]),(2,[]),(3,[2]),(4,[0,1,2,3]),(5,[0,1,2,3,4]),(6,[0,1,2,3,4,5]),(7,[0,1,2,3,4,5]),(8,[0,1,2,3,4,5]),(9,[]),(10,[]),(11,[0,1,2,3,4,5,6,9,10]),(12,[0,1,2,3,4,5,6,7,9,10,11]),(13,[0,1,2,3,4,5,6,7,8,9,10,11,12])]
def zBw:List (Nat×List Nat):=[(0,[]),(1,[]),(2,[]),(3,[2]),(4,[0,1,2,3]),(5,[0,1,2,3,4]),(6,[0,1,2,3,4,5]),(7,[0,1,2,3,4,5]),(8,[0,1,2,3,4,5]),(9,[]),(10,[]),(11,[0,1,2,3,4,5,6,9,10]),(12,[0,1,2,3,4,5,6,7,9,10,11]),(13,[0,1,2,3,4,5,6,7,8,9,10,11,12])]
def zBj:List (Nat×List Nat):=[(0,[]),(1,[0]),(2,[0,1]),(3,[0,1,2]),(4,[0,1,2,3]),(5,[0,1,2,3,4]),(6,[0,1,2,3,4,5]),(7,[0,1,2,3,4,5,6]),(8,[0,1,2,3,4,5,6]),(9,[0,1,2,3,4,5,6]),(10,[0,1,2,3,4,5,6]),(11,[0,1,2,3,4,5,6,9,10]),(12,[0,1,2,3,4,5,6,8,9,10,11]),(13,[0,1,2,3,4,5,6,7,8,9,10,11,12]),(14,[0,1,2,3,4,5,6,7,8,9,10,11,12,13]),(15,[0,1,2,3,4,5,6,7,8,9,10,11,12,13,14]),(16,[0,1,2,3,4,5,6,7,8,9,10,11,12,13,14,15]),(17,[0,1,2,3,4,5,6,7,8,9,10,11,12,13,14,15,16]),(18,[0,1,2,3,4,5,6,7,8,9,10,11,12,13,14,15,16,17]),(19,[0,1,2,3,4,5,6,7,8,9,10,11,12,13,14,15]),(20,[0,1,2,3,4,5,6,7,8,9,10,11,12,13,14,15,19]),(21,[0,1,2,3,4,5,6,7,8,9,10,11,12,13,14,15,19,20]),(22,[0,1,2,3,4,5,6,7,8,9,10,11,12,13,14,15]),(23,[0,1,2,3,4,5,6,7,8,9,10,11,12,13,14,15,22]),(24,[0,1,2,3,4,5,6,7,8,9,10,11,12,13,14,15,22,23]),(25,[0,1,2,3,4,5,6,7,8,9,10,11,12,13,14,15,19,20,21,22,23,24]),(26,[0,1,2,3,4,5,6,7,8,9,10,11,12,13,14,15,16,17,18,19,20,21,22,23,24,25]),(27,[0,1,2,3,4,5,6,7,8,9,10,11,12,13,14,15,16,17,18,19,20,21,22,23,24,25,26]),(28,[0,1,2,3,4,5,6,7,8,9,10,11,12,13,14,15,16,17,18,19,20,21,22,23,24,25,26,27]),(29,[0,1,2,3,4,5,6,7,8,9,10,11,12,13,14,15,16,17,18,19,20,21,22,23,24,25,26,27,28]),(30,[0,1,2,3,4,5,6,7,8,9,10,11,12,13,14,15,16,17,18,19,20,21,22,23,24,25,26,27,28]),(31,[0,1,2,3,4,5,6,7,8,9,10,11,12,13,14,15,16,17,18,19,20,21,22,23,24,25,26,27,28,29,30]),(32,[0,1,2,3,4,5,6,7,8,9,10,11,12,13,14,15,16,17,18,19,20,21,22,23,24,25,26,27,28,29,30,31]),(33,[0,1,2,3,4,5,6,7,8,9,10,11,12,13,14,15,16,17,18,19,20,21,22,23,24,25,26,27,28,29,30,31,32]),(34,[0,1,2,3,4,5,6,7,8,9,10,11,12,13,14,15,16,17,18,19,20,21,22,23,24,25,26,27,28,29,30,31,32,33]),(35,[0,1,2,3,4,5,6,7,8,9,10,11,12,13,14,15,16,17,18,19,20,21,22,23,24,25,26,27,28,29,30,31,32,33]),(36,[0,1,2,3,4,5,6,7,8,9,10,11,12,13,14,15,16,17,18,19,20,21,22,23,24,25,26,27,28,29,30,31,32,33,34,35]),(37,[0,1,2,3,4,5,6,7,8,9,10,11,12,13,14,15,16,17,18,19,20,21,22,23,24,25,26,27,28,29,30,31,32,33,34,35,36]),(38,[0,1,2,3,4,5,6,7,8,9,10,11,12,13,14,15,16,17,18,19,20,21,22,23,24,25,26,27,28,29,30,31,32,33,34,35,36,37]),(39,[0,1,2,3,4,5,6,7,8,9,10,11,12,13,14,15,16,17,18,19,20,21,22,23,24,25,26,27,28,29,30,31,32,33,34,35,36,37,38]),(40,[0,1,2,3,4,5,6,7,8,9,10,11,12,13,14,15,16,17,18,19,20,21,22,23,24,25,26,27,28,29,30,31,32,33,34,35,36,37,38,39]),(41,[0,1,2,3,4,5,6,7,8,9,10,11,12,13,14,15,16,17,18,19,20,21,22,23,24,25,26,27,28,29,30,31,32,33,34,35,36,37,38,39,40])]
attribute [local irreducible] WL AC WD WE MStep OkOp
attribute [local irreducible] zfd zvN
theorem zzJ{lk:Tm→Option (Tm×Int)}{t a:Tm}{p:List (List Int)}{F:Int}(hc:z8 t=0)(h0:0≤F)(h1:F≤4096)(h:zw9 lk t p a)(hp:(p.length:Int)≤F):normR 0 lk t F=(a,p,0):=by
 rw[zyG hc h0 h1,(zyI h F.toNat []).1 (by omega)];rfl
set_option maxHeartbeats 16000000 in
theorem zAD(env:List En)(a b:Tm)(fuel:Int)(h:zbJ env+a.size+b.size≤400000):FC Tryz.prog 3 [sE env,aT a,aT b,.int .i64 fuel] (.bool true):=by
 have hp1:=a.size_pos
 have hp2:=b.size_pos
 have he:=znh env (by omega)
 have hv:=ztW a b (by simp only[sizes];omega)
 have hw:=zyT
 have hlk:=zuW env (by omega)
 have f1:=zy9 fuel
 obtain⟨b1,b2⟩:=zzc fuel
 generalize fuelI fuel=F at f1 b1 b2
 have t1:=rt2 4 a b
 have hsz:(Tm.mk 4 0 [a,b]).size=1+(a.size+(b.size+0)):=by simp only[Tm.size,sizes]
 have hck:=zo2 (.mk 4 0 [a,b]) (by omega)
 have hA:=zxV hlk (.mk 4 0 [a,b]) F (by omega)
 by_cases hC:z8 (.mk 4 0 [a,b])=0
 case neg=>
  refine zo hty Tryz.func3 rfl rfl rfl fun w0=>?_
  repeat'(first|exact absurd (by assumption) hC|exact absurd hC (by assumption)|refine zL rfl he rfl (fun _=>?_) (fun _=>?_)|refine zL rfl hv rfl (fun _=>?_) (fun _=>?_)|refine WL_m rfl (zct 0 rfl rfl rfl t1 rfl rfl rfl) ?_|refine zv 0 rfl hck rfl rfl rfl ?_|refine WL_p hty rfl rfl ?_|refine zh ?_|refine zi ?_|refine za ?_|refine ze ?_|refine zd rfl ?_|refine zbZ rfl ?_|refine zg ?_|refine zx rfl rfl ?_|refine zq rfl rfl rfl ?_|refine zot rfl rfl rfl ?_|refine zr rfl rfl rfl ?_|refine zb rfl ?_|refine zj rfl rfl rfl rfl (fun _=>?_) (fun _=>?_)|refine zk rfl (fun _=>?_) (fun _=>?_))
  all_goals rfl
 rw[hC]at hck
 by_cases e0:(normR (envI env) (lookR env) (.mk 4 0 [a,b]) F).2.2=0
 ·obtain⟨hE,_,hch,hpf⟩:=zzb e0 b1 (by omega)
  have hR:normR (envI env) (lookR env) (.mk 4 0 [a,b]) F=((normR (envI env) (lookR env) (.mk 4 0 [a,b]) F).1,(normR (envI env) (lookR env) (.mk 4 0 [a,b]) F).2.1,0):=Prod.ext rfl (Prod.ext rfl e0)
  rw[hR]at hA
  rw[hE]at hlk
  generalize (normR (envI env) (lookR env) (.mk 4 0 [a,b]) F).1=x at hA hch
  generalize (normR (envI env) (lookR env) (.mk 4 0 [a,b]) F).2.1=p at hA hch hpf
  clear hR e0
  obtain⟨q,r,y,z,rfl,hlen,hy,hz,_⟩:=zzk (fun _=>True) (fun _ _ _ _ _=>trivial) (fun a b _=>zAb env 0 [a,b]) p a b x trivial hch
  have ca:z8 a=0:=zql (p:=[0]) hC (by simp[zaZ,zhz])
  have cb:z8 b=0:=zql (p:=[1]) hC (by simp[zaZ,zhz])
  obtain⟨cy,_⟩:=zyf hy ca
  obtain⟨cz,_⟩:=zyf hz cb
  obtain⟨cx,_⟩:=zyf hch hC
  have ey:=zyy hy
  have ez:=zyy hz
  have sy:=(zcH cy).1
  have sz:=(zcH cz).1
  have sx:=(zcH cx).1
  have hB:=zxV hlk a F (by omega)
  rw[zzJ ca b1 (by omega) hy (by omega)]at hB
  have hD:=zxV hlk b F (by omega)
  rw[zzJ cb b1 (by omega) hz (by omega)]at hD
  have t2:=rt2 4 y z
  have kx:=zpx (.mk 4 0 [y,z]) (by omega)
  have n1:=zxr hlk y (by omega)
  rw[zz8 cy,ey]at n1
  have n2:=zxr hlk z (by omega)
  rw[zz8 cz,ez]at n2
  have lp:=zwC p
  have lq:=zwC q
  have lr:=zwC r
  have hw2:IntKind.i64.wrap (((rsP q).length:Int)+((rsP r).length:Int))=((rsP p).length:Int):=(zy (by omega) (by omega)).trans (by omega)
  clear hch hy hz
  dsimp only[goV]at hA hB hD
  refine zo hty Tryz.func3 rfl rfl rfl fun w0=>?_
  repeat'(first|exact absurd rfl ‹_›|exact absurd hw2.symm ‹_›|(refine zhH (id:=7) ?_;refine zab (zfY (l:=[(0,_),(3,_),(5,_),(6,_),(9,_),(10,_)]) (bl:=[(5,_),(6,_),(10,_)]) ⟨(zz rfl rfl),(zz rfl rfl),(zz rfl rfl),(zz rfl rfl),(zz rfl rfl),(zz rfl rfl),trivial⟩ ⟨(zw rfl rfl),(zw rfl rfl),(zw rfl rfl),trivial⟩) ?_;refine zD (id:=7) zAm rfl (by kernel_rfl) ?_)|(refine zhH (id:=10) ?_;refine zab (zfY (l:=[(0,_),(3,_),(5,_),(6,_),(9,_),(11,_),(12,_)]) (bl:=[(5,_),(6,_),(11,_),(12,_)]) ⟨(zz rfl rfl),(zz rfl rfl),(zz rfl rfl),(zz rfl rfl),(zz rfl rfl),(zz rfl rfl),(zz rfl rfl),trivial⟩ ⟨(zw rfl rfl),(zw rfl rfl),(zw rfl rfl),(zw rfl rfl),trivial⟩) ?_;refine zD (id:=10) zBm rfl (by kernel_rfl) ?_)|(refine zhH (id:=11) ?_;refine zab (zfY (l:=[(0,_),(3,_),(6,_),(9,_),(11,_),(12,_),(14,_),(15,_),(16,_)]) (bl:=[(6,_),(11,_),(12,_),(14,_),(15,_)]) ⟨(zz rfl rfl),(zz rfl rfl),(zz rfl rfl),(zz rfl rfl),(zz rfl rfl),(zz rfl rfl),(zz rfl rfl),(zz rfl rfl),(zz rfl rfl),trivial⟩ ⟨(zw rfl rfl),(zw rfl rfl),(zw rfl rfl),(zw rfl rfl),(zw rfl rfl),trivial⟩) ?_;refine zD (id:=11) zBw rfl (by kernel_rfl) ?_)|(refine zhH (id:=12) ?_;refine zab (zfY (l:=[(0,_),(9,_),(11,_),(12,_),(14,_),(15,_),(16,_),(17,_),(18,_),(19,_)]) (bl:=[(11,_),(12,_),(14,_),(15,_),(17,_),(18,_)]) ⟨(zz rfl rfl),(zz rfl rfl),(zz rfl rfl),(zz rfl rfl),(zz rfl rfl),(zz rfl rfl),(zz rfl rfl),(zz rfl rfl),(zz rfl rfl),(zz rfl rfl),trivial⟩ ⟨(zw rfl rfl),(zw rfl rfl),(zw rfl rfl),(zw rfl rfl),(zw rfl rfl),(zw rfl rfl),trivial⟩) ?_;refine zD (id:=12) zBj rfl (by kernel_rfl) ?_)|refine zL rfl he rfl (fun _=>?_) (fun _=>?_)|refine zL rfl hv rfl (fun _=>?_) (fun _=>?_)|refine WL_m rfl (zct 0 rfl rfl rfl t1 rfl rfl rfl) ?_|refine zv 0 rfl hck rfl rfl rfl ?_|refine zad 0 rfl f1 rfl rfl rfl ?_|refine zad 0 rfl hA rfl rfl rfl ?_|refine zad 0 rfl hB rfl rfl rfl ?_|refine zad 0 rfl hD rfl rfl rfl ?_|refine zu (.inl ⟨rfl,zct 0 rfl rfl rfl t2 rfl rfl rfl⟩) ?_|refine zad 0 rfl kx rfl rfl rfl ?_|refine zad 0 rfl n1 rfl rfl rfl ?_|refine zad 0 rfl n2 rfl rfl rfl ?_|refine zad 0 rfl hw rfl rfl rfl ?_|refine zu (.inl ⟨rfl,zI hty rfl rfl⟩) ?_|refine zaG rfl rfl ?_|refine zau rfl rfl rfl ?_|refine zav rfl rfl rfl ?_|refine zaw rfl rfl rfl ?_|refine zS ⟨by kernel_rfl,?_⟩|refine WL_p hty rfl rfl ?_|refine zh ?_|refine zi ?_|refine za ?_|refine ze ?_|refine zd rfl ?_|refine zbZ rfl ?_|refine zg ?_|refine zx rfl rfl ?_|refine zq rfl rfl rfl ?_|refine zot rfl rfl rfl ?_|refine zr rfl rfl rfl ?_|refine zb rfl ?_|refine zj rfl rfl rfl rfl (fun _=>?_) (fun _=>?_)|refine zk rfl (fun _=>?_) (fun _=>?_)|refine zaC rfl rfl rfl rfl (fun _=>?_) (fun _=>?_))
  all_goals rfl
 ·obtain⟨z1,z2⟩:=zy6 e0
  have hR:normR (envI env) (lookR env) (.mk 4 0 [a,b]) F=(zT,[],(normR (envI env) (lookR env) (.mk 4 0 [a,b]) F).2.2):=by
   generalize normR (envI env) (lookR env) (.mk 4 0 [a,b]) F=r at z1 z2⊢
   obtain⟨x,y,z⟩:=r
   simp only at z1 z2
   rw[z1,z2]
  rw[hR]at hA
  generalize (normR (envI env) (lookR env) (.mk 4 0 [a,b]) F).2.2=e at hA e0
  dsimp only[goV]at hA
  refine zo hty Tryz.func3 rfl rfl rfl fun w0=>?_
  repeat'(first|exact absurd rfl ‹_›|exact absurd (by assumption) e0|exact absurd e0 (by assumption)|(refine zhH (id:=7) ?_;refine zab (zfY (l:=[(0,_),(3,_),(5,_),(6,_),(9,_),(10,_)]) (bl:=[(5,_),(6,_),(10,_)]) ⟨(zz rfl rfl),(zz rfl rfl),(zz rfl rfl),(zz rfl rfl),(zz rfl rfl),(zz rfl rfl),trivial⟩ ⟨(zw rfl rfl),(zw rfl rfl),(zw rfl rfl),trivial⟩) ?_;refine zD (id:=7) zAm rfl (by kernel_rfl) ?_)|refine zL rfl he rfl (fun _=>?_) (fun _=>?_)|refine zL rfl hv rfl (fun _=>?_) (fun _=>?_)|refine WL_m rfl (zct 0 rfl rfl rfl t1 rfl rfl rfl) ?_|refine zv 0 rfl hck rfl rfl rfl ?_|refine zad 0 rfl f1 rfl rfl rfl ?_|refine zad 0 rfl hA rfl rfl rfl ?_|refine zv 0 rfl hw rfl rfl rfl ?_|refine zu (.inl ⟨rfl,zI hty rfl rfl⟩) ?_|refine zaG rfl rfl ?_|refine zau rfl rfl rfl ?_|refine zav rfl rfl rfl ?_|refine zaw rfl rfl rfl ?_|refine zS ⟨by kernel_rfl,?_⟩|refine WL_p hty rfl rfl ?_|refine zh ?_|refine zi ?_|refine za ?_|refine ze ?_|refine zd rfl ?_|refine zbZ rfl ?_|refine zg ?_|refine zx rfl rfl ?_|refine zq rfl rfl rfl ?_|refine zot rfl rfl rfl ?_|refine zr rfl rfl rfl ?_|refine zb rfl ?_|refine zj rfl rfl rfl rfl (fun _=>?_) (fun _=>?_)|refine zk rfl (fun _=>?_) (fun _=>?_))
  all_goals rfl
end Go.Proofs.YtokfbblhjpfjkaaGreat
