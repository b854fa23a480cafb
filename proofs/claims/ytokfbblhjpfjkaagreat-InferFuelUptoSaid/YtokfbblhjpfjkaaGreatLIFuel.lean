/- More fuel tells the same type, by the same traces; the fuel that was spent is en -/
import Derived.Test.YtokfbblhjpfjkaaGreatLInfW
set_option linter.unusedSimpArgs false
set_option linter.unusedVariables false
namespace Go.Proofs.YtokfbblhjpfjkaaGreat
open Go.Aw Go.RowKit
attribute [local irreducible] WL AC WD WE MStep OkOp
attribute [local irreducible] zfd zvN
set_option maxHeartbeats 32000000 in
theorem zEm(env:List En)(ctx:List Tm)(t:Tm)(fuel more:Int)(h:zbJ env+sizes ctx+t.size≤400000):FC Tryz.prog 8 [sE env,sT ctx,aT t,.int .i64 fuel,.int .i64 more] (.bool true):=by
 have he:=znh env (by omega)
 have hx:=zD0 ctx (by omega)
 have hv:=zfj t (by omega)
 have hw:=zDE
 have f1:=zy9 fuel
 have f2:=zy9 more
 obtain⟨b1,b2⟩:=zzc fuel
 obtain⟨b3,b4⟩:=zzc more
 generalize fuelI fuel=F at f1 b1 b2
 generalize fuelI more=M at f2 b3 b4
 have hI:=fun G=>zCz env ctx t G (by omega) (by omega) (by omega)
 obtain⟨z1,z2,z3⟩:=zCU (env:=env) (ctx:=ctx) (t:=t) (F:=F) (by omega)
 obtain⟨l1,l2⟩:=zGe (env:=env) (ctx:=ctx) (t:=t) (F:=F) ⟨b1,by omega⟩
 have hA:=hI F
 by_cases e0:(zzQ env ctx t F).2.2.2=0
 ·obtain⟨q1,q2,q3,q4⟩:=l1 e0
  have hR:zzQ env ctx t F=((zzQ env ctx t F).1,(zzQ env ctx t F).2.1,(zzQ env ctx t F).2.2.1,0):=Prod.ext rfl (Prod.ext rfl (Prod.ext rfl e0))
  have hB: ∀ G,0≤G→G≤65536→(zzQ env ctx t F).2.2.1≤G→FC Tryz.prog 33 [sE env,sT ctx,aT t,.int .i64 G] (zF6 (zzQ env ctx t F)):=fun G g1 g2 g3=>by
   rw[←(q4 G ⟨g1,g2⟩).1 g3];exact hI G
  have hD: ∀ G,0≤G→G≤65536→G <(zzQ env ctx t F).2.2.1→ ∃ x y z,FC Tryz.prog 33 [sE env,sT ctx,aT t,.int .i64 G] (.tup [aT x,sTr y,.int .i64 z,.int .i64 7]):=fun G g1 g2 g3=>by
   have:=hI G
   have e7:=(q4 G ⟨g1,g2⟩).2 g3
   exact⟨_,_,_,by rw[←e7];exact this⟩
  rw[hR]at hA hB
  generalize (zzQ env ctx t F).1=a at hA hB z1
  generalize (zzQ env ctx t F).2.1=p at hA hB z2 z3 q1
  generalize (zzQ env ctx t F).2.2.1=n at hA hB hD q1 q2 q3
  clear hR e0 l1 l2 q4
  have w1:IntKind.i64.wrap (n+M)=n+M:=zy (by omega) (by omega)
  have hB2:=hB (IntKind.i64.wrap (n+M)) (by omega) (by omega) (by omega)
  have hpl:=zDj p
  have ka:=zpx a (by omega)
  have kp:=zFk p (by omega) (fun x hx=>⟨by have:=(z3 x hx).1;omega,fun y hy=>by have:=(z3 x hx).2 y hy;omega⟩)
  have w2:IntKind.i64.wrap (n-1)=n-1:=zy (by omega) (by omega)
  obtain⟨dx,dy,dz,hD2⟩: ∃ x y z,n≠0→FC Tryz.prog 33 [sE env,sT ctx,aT t,.int .i64 (IntKind.i64.wrap (n-1))] (.tup [aT x,sTr y,.int .i64 z,.int .i64 7]):=by
   by_cases n0:n=0
   ·exact⟨zT,[],0,fun q=>absurd n0 q⟩
   ·obtain⟨x,y,z,g⟩:=hD (IntKind.i64.wrap (n-1)) (by omega) (by omega) (by omega)
    exact⟨x,y,z,fun _=>g⟩
  clear hB hD
  dsimp only[zF6]at hA hB2
  refine zo hty Tryz.func8 rfl rfl rfl fun w0=>?_
  repeat'(first|exact absurd rfl ‹_›|refine zL rfl he rfl (fun _=>?_) (fun _=>?_)|refine zL rfl hx rfl (fun _=>?_) (fun _=>?_)|refine zL rfl hv rfl (fun _=>?_) (fun _=>?_)|refine zv 0 rfl f1 rfl rfl rfl ?_|refine zv 0 rfl f2 rfl rfl rfl ?_|refine zv 0 rfl hA rfl rfl rfl ?_|(refine zhH (id:=5) ?_;refine zab (zfY (l:=[(0,_),(1,_),(3,_),(4,_),(7,_),(11,_),(12,_),(13,_),(14,_)]) (bl:=[(7,_),(11,_)]) ⟨zz rfl rfl,zz rfl rfl,zz rfl rfl,zz rfl rfl,zz rfl rfl,zz rfl rfl,zz rfl rfl,zz rfl rfl,zz rfl rfl,trivial⟩ ⟨zw rfl rfl,zw rfl rfl,trivial⟩) ?_;refine za ?_)|refine WL_p hty rfl rfl ?_|refine zh ?_|refine zi ?_|refine za ?_|refine zf ?_|refine zxg ?_|refine zd rfl ?_|refine zbZ rfl ?_|refine zg ?_|refine zx rfl rfl ?_|refine zot rfl rfl rfl ?_|refine zb rfl ?_|refine zj rfl rfl rfl rfl (fun _=>?_) (fun _=>?_))
  all_goals try rfl
  refine zW p.length (fun _=>True) (fun i=>⟨envOf [(0,sE env),(1,sT ctx),(3,.int .i64 F),(4,.int .i64 M),(7,.ptr 7 0),(11,.ptr 11 0),(12,sTr p),(13,.int .i64 n),(14,.int .i64 0),(19,.int .i64 (zB3 (p.take i))),(20,.int .i64 (i:Nat))],
   bkOf [(7,.box (cT t)),(11,.box (cT a))]⟩) (zfY ⟨zz rfl rfl,zz rfl rfl,zz rfl rfl,zz rfl rfl,zz rfl rfl,zz rfl rfl,zz rfl rfl,zz rfl rfl,zz rfl rfl,zz rfl rfl,zz rfl rfl,trivial⟩ ⟨zw rfl rfl,zw rfl rfl,trivial⟩) trivial ?_
  intro i hi _
  repeat'(first|refine WL_p hty rfl rfl ?_|refine zi ?_|refine za ?_)
  refine zj rfl rfl rfl rfl (fun hc=>?_) (fun hc=>?_)
  ·have hlt:i <p.length:=by omega
   obtain⟨x,hpg,hpm⟩:=zA hlt
   have rp:(zCM p)[i]? =some [sP x]:=by rw[zCM,List.getElem?_map,hpg];rfl
   have hxl:=zwC x
   have hnx:=zGw hpg
   have s0:=zDi (p.take i)
   have s1:=zGJ p i
   have s2:=(z3 x hpm).1
   repeat'(first|refine WL_p hty rfl rfl ?_|refine zh ?_|refine zi ?_|refine za ?_|refine zf ?_|refine zxg ?_|refine zd rfl ?_|refine WL_m rfl (zm hty rfl rfl rfl (by assumption) rfl) ?_)
   refine⟨hlt,trivial,(zfY ⟨zz rfl rfl,zz rfl rfl,zz rfl rfl,zz rfl rfl,zz rfl rfl,zz rfl rfl,zz rfl rfl,zz rfl rfl,zz rfl rfl,⟨_,rfl,zO ?_ rfl⟩,⟨_,rfl,zO ?_ rfl⟩,trivial⟩ ⟨zw rfl rfl,zw rfl rfl,trivial⟩)⟩
   ·exact congrArg (AV.int .i64) ((zy (by omega) (by omega)).trans (by omega))
   ·exact congrArg (AV.int .i64) ((zy (by omega) (by omega)).trans (by omega))
  ·obtain rfl:i=p.length:=by omega
   rw[List.take_length,q1]
   repeat'(first|exact absurd rfl ‹_›|(exfalso;omega)|refine zv 0 rfl hB2 rfl rfl rfl ?_|refine zv 0 rfl ka rfl rfl rfl ?_|refine zv 0 rfl kp rfl rfl rfl ?_|refine zv 0 rfl hw rfl rfl rfl ?_|refine zv 0 rfl (hD2 ‹_›) rfl rfl rfl ?_|(refine zhH (id:=16) ?_;refine zab (zfY (l:=[(0,_),(1,_),(3,_),(7,_),(11,_),(12,_),(13,_),(19,_),(21,_),(22,_),(23,_),(24,_)]) (bl:=[(7,_),(11,_),(21,_)]) ⟨zz rfl rfl,zz rfl rfl,zz rfl rfl,zz rfl rfl,zz rfl rfl,zz rfl rfl,zz rfl rfl,zz rfl rfl,zz rfl rfl,zz rfl rfl,zz rfl rfl,zz rfl rfl,trivial⟩ ⟨zw rfl rfl,zw rfl rfl,zw rfl rfl,trivial⟩) ?_;refine za ?_)|(refine zhH (id:=18) ?_;refine zab (zfY (l:=[(0,_),(1,_),(7,_),(13,_)]) (bl:=[(7,_)]) ⟨zz rfl rfl,zz rfl rfl,zz rfl rfl,zz rfl rfl,trivial⟩ ⟨zw rfl rfl,trivial⟩) ?_;refine za ?_)|refine WL_p hty rfl rfl ?_|refine zh ?_|refine zi ?_|refine za ?_|refine zxg ?_|refine zd rfl ?_|refine zbZ rfl ?_|refine zl ?_|refine zg ?_|refine zx rfl rfl ?_|refine zb rfl ?_|refine zj rfl rfl rfl rfl (fun _=>?_) (fun _=>?_))
   all_goals rfl
 ·obtain⟨g1,g2,g3,g4⟩:=l2 e0
  have hR:zzQ env ctx t F=(zT,[],0,(zzQ env ctx t F).2.2.2):=Prod.ext g1 (Prod.ext g2 (Prod.ext g3 rfl))
  have w1:IntKind.i64.wrap (F+M)=F+M:=zy (by omega) (by omega)
  have hB:=hI (IntKind.i64.wrap (F+M))
  obtain⟨x,y,z,e',hB,he'⟩: ∃ x y z e',FC Tryz.prog 33 [sE env,sT ctx,aT t,.int .i64 (IntKind.i64.wrap (F+M))] (.tup [aT x,sTr y,.int .i64 z,.int .i64 e'])∧((zzQ env ctx t F).2.2.2≠7→e'=(zzQ env ctx t F).2.2.2):=
   ⟨_,_,_,_,hB,fun q=>by rw[w1];exact g4 q (F+M) ⟨by omega,by omega⟩⟩
  rw[hR]at hA
  generalize (zzQ env ctx t F).2.2.2=e at hA e0 he'
  have kz:=zG3 true
  dsimp only[zF6]at hA
  clear l1 l2 g1 g2 g3 g4 hR z1 z2 z3
  refine zo hty Tryz.func8 rfl rfl rfl fun w0=>?_
  repeat'(first|exact absurd rfl ‹_›|exact absurd e0 (by assumption)|(exfalso;omega)|refine zL rfl he rfl (fun _=>?_) (fun _=>?_)|refine zL rfl hx rfl (fun _=>?_) (fun _=>?_)|refine zL rfl hv rfl (fun _=>?_) (fun _=>?_)|refine zv 0 rfl f1 rfl rfl rfl ?_|refine zv 0 rfl f2 rfl rfl rfl ?_|refine zv 0 rfl hA rfl rfl rfl ?_|refine zv 0 rfl hB rfl rfl rfl ?_|refine zv 0 rfl kz rfl rfl rfl ?_|refine zv 0 rfl hw rfl rfl rfl ?_|(refine zhH (id:=5) ?_;refine zab (zfY (l:=[(0,_),(1,_),(3,_),(4,_),(7,_),(11,_),(12,_),(13,_),(14,_)]) (bl:=[(7,_),(11,_)]) ⟨zz rfl rfl,zz rfl rfl,zz rfl rfl,zz rfl rfl,zz rfl rfl,zz rfl rfl,zz rfl rfl,zz rfl rfl,zz rfl rfl,trivial⟩ ⟨zw rfl rfl,zw rfl rfl,trivial⟩) ?_;refine za ?_)|(refine zhH (id:=8) ?_;refine zab (zfY (l:=[(0,_),(1,_),(3,_),(4,_),(7,_),(14,_)]) (bl:=[(7,_)]) ⟨zz rfl rfl,zz rfl rfl,zz rfl rfl,zz rfl rfl,zz rfl rfl,zz rfl rfl,trivial⟩ ⟨zw rfl rfl,trivial⟩) ?_;refine za ?_)|(refine zhH (id:=9) ?_;refine zab (zfY (l:=[(14,_),(18,_)]) (bl:=[]) ⟨zz rfl rfl,zz rfl rfl,trivial⟩ trivial) ?_;refine za ?_)|refine WL_p hty rfl rfl ?_|refine zh ?_|refine zi ?_|refine za ?_|refine zxg ?_|refine zd rfl ?_|refine zbZ rfl ?_|refine zg ?_|refine zx rfl rfl ?_|refine zot rfl rfl rfl ?_|refine zb rfl ?_|refine zj rfl rfl rfl rfl (fun _=>?_) (fun _=>?_))
  all_goals first
   |rfl
   |(exfalso;rename_i q1 q2;exact q2 (he' q1))
   |(exfalso;have:=he' ‹_›;omega)
end Go.Proofs.YtokfbblhjpfjkaaGreat
