/- An identity is of a type's level; the proof that a thing is itself has the ident -/
import Derived.Test.YtokfbblhjpfjkaaGreatLInfW
set_option linter.unusedSimpArgs false
set_option linter.unusedVariables false
namespace Go.Proofs.YtokfbblhjpfjkaaGreat
open Go.Aw Go.RowKit
def zCd:List (Nat×List Nat):=[(0,[]),(1,[]),(2,[]),(3,[]),(4,[1,2,3]),(5,[0,1,2,3,4]),(6,[100012]),(7,[100012]),(8,[100012]),(9,[7,8,100012]),(10,[0,1,2,3,4,5,6,7,8,9,100012]),(11,[]),(12,[]),(13,[0,1,2,3,4,5,6,7,8,9,10,11,12]),(14,[0,1,2,3,4,5,6,7,8,9,10,11,12,13])]
def zFy:List (Nat×List Nat):=[(0,[]),(1,[0]),(2,[0,1]),(3,[0,1,2]),(4,[0,1,2,3]),(5,[0,1,2,3,4]),(6,[0,1,2,3,4,5]),(7,[0,1,2,3,4,5,6]),(8,[0,1,2,3,4,5,6,7]),(9,[0,1,2,3,4,5,6,7,8]),(10,[0,1,2,3,4,5,6,7,8,9]),(11,[0,1,2,3,4,5,6,7,8,9,10]),(12,[0,1,2,3,4,5,6,7,8,9,10]),(13,[0,1,2,3,4,5,6,7,8,9,10]),(14,[0,1,2,3,4,5,6,7,8,9,10]),(15,[0,1,2,3,4,5,6,7,8,9,10]),(16,[0,1,2,3,4,5,6,7,8,9,10,13,14,15]),(17,[0,1,2,3,4,5,6,7,8,9,10,12,13,14,15,16]),(18,[0,1,2,3,4,5,6,7,8,9,10,11,12,13,14,15,16,17]),(19,[0,1,2,3,4,5,6,7,8,9,10,11,12,13,14,15,16,17,18]),(20,[0,1,2,3,4,5,6,7,8,9,10,11,12,13,14,15,16,17,18,19]),(21,[0,1,2,3,4,5,6,7,8,9,10,11,12,13,14,15,16,17,18,19,20]),(22,[0,1,2,3,4,5,6,7,8,9,10,11,12,13,14,15,16,17,18,19,20]),(23,[0,1,2,3,4,5,6,7,8,9,10,11,12,13,14,15,16,17,18,19,20,21,22]),(24,[0,1,2,3,4,5,6,7,8,9,10,11,12,13,14,15,16,17,18,19,20,21,22,23]),(25,[0,1,2,3,4,5,6,7,8,9,10,11,12,13,14,15,16,17,18,19,20,21,22,23,24]),(26,[0,1,2,3,4,5,6,7,8,9,10,11,12,13,14,15,16,17,18,19,20,21,22,23,24,25]),(27,[0,1,2,3,4,5,6,7,8,9,10,11,12,13,14,15,16,17,18,19,20,21,22,23,24,25,26]),(28,[0,1,2,3,4,5,6,7,8,9,10,11,12,13,14,15,16,17,18,19,20,21,22,23,24,25,26,27])]
attribute [local irreducible] WL AC WD WE MStep OkOp
attribute [local irreducible] zfd zvN
theorem zHr(r:Tm×List (List (List Int))×Int×Int):zF6 r=.tup [aT r.1,sTr r.2.1,.int .i64 r.2.2.1,.int .i64 r.2.2.2]:=rfl
set_option maxHeartbeats 32000000 in
theorem zEY(env:List En)(ctx:List Tm)(a x y:Tm)(h:zbJ env+sizes ctx+a.size+x.size+y.size≤400000):FC Tryz.prog 12 [sE env,sT ctx,aT a,aT x,aT y] (.bool true):=by
 have he:=znh env (by omega)
 have hx:=zD0 ctx (by omega)
 have hv:FC Tryz.prog 16 [.lst 3 [cT a,cT x,cT y] true] (.bool (zbk [a,x,y])):=by
  have:=(zde [a,x,y] (by simp only[sizes];omega)).args (xs:=[.lst 3 (rsT [a,x,y]) true]) (.cons (.full _ _ _) .nil)
  rwa[rs3]at this
 have hw:=zDE
 have t1:=rt3 11 a x y
 have t2:=rt2 12 a x
 have z1:(Tm.mk 11 0 [a,x,y]).size=1+(a.size+(x.size+(y.size+0))):=by simp only[Tm.size,sizes]
 have z2:(Tm.mk 12 0 [a,x]).size=1+(a.size+(x.size+0)):=by simp only[Tm.size,sizes]
 have k1:=zo2 (.mk 11 0 [a,x,y]) (by omega)
 have k2:=zo2 (.mk 12 0 [a,x]) (by omega)
 by_cases hc:checkT (.mk 11 0 [a,x,y])=0∧checkT (.mk 12 0 [a,x])=0
 case neg=>
  generalize checkT (.mk 11 0 [a,x,y])=e1 at k1 hc
  generalize checkT (.mk 12 0 [a,x])=e2 at k2 hc
  refine zo hty Tryz.func12 rfl rfl rfl fun w0=>?_
  repeat'(first|(exfalso;omega)|refine zL rfl he rfl (fun _=>?_) (fun _=>?_)|refine zL rfl hx rfl (fun _=>?_) (fun _=>?_)|refine zL rfl hv rfl (fun _=>?_) (fun _=>?_)|refine zD (id:=4) zCd rfl (by kernel_rfl) ?_|refine zu (.inl ⟨rfl,zct 0 rfl rfl rfl t1 rfl rfl rfl⟩) ?_|refine zu (.inl ⟨rfl,zct 0 rfl rfl rfl t2 rfl rfl rfl⟩) ?_|refine zv 0 rfl k1 rfl rfl rfl ?_|refine zv 0 rfl k2 rfl rfl rfl ?_|refine zu (.inl ⟨rfl,zI hty rfl rfl⟩) ?_|refine zS ⟨by kernel_rfl,?_⟩|refine WL_p hty rfl rfl ?_|refine zh ?_|refine zi ?_|refine za ?_|refine zxg ?_|refine zd rfl ?_|refine zbZ rfl ?_|refine zg ?_|refine zx rfl rfl ?_|refine zot rfl rfl rfl ?_|refine zb rfl ?_|refine zj rfl rfl rfl rfl (fun _=>?_) (fun _=>?_))
  all_goals first
   |rfl
   |(exfalso;omega)
 obtain⟨c1,c2⟩:=hc
 rw[c1]at k1
 rw[c2]at k2
 obtain⟨p1,p2⟩:=zGD (env:=env) (ctx:=ctx) c1 c2
 have hU:=zCz env ctx (.mk 11 0 [a,x,y]) 119 (by omega) (by omega) (by omega)
 have hV:=zCz env ctx (.mk 12 0 [a,x]) 119 (by omega) (by omega) (by omega)
 have hL:=zCz env ctx a 119 (by omega) (by omega) (by omega)
 have hW:=zCz env ctx x 119 (by omega) (by omega) (by omega)
 have hlk:=zuW env (by omega)
 have hN:=zxV hlk a 119 (by omega)
 have hM:=zxV hlk x 119 (by omega)
 have sU:=(zCU (env:=env) (ctx:=ctx) (t:=.mk 11 0 [a,x,y]) (F:=119) (by omega)).1
 have sV:=(zCU (env:=env) (ctx:=ctx) (t:=.mk 12 0 [a,x]) (F:=119) (by omega)).1
 have sW:=(zCU (env:=env) (ctx:=ctx) (t:=x) (F:=119) (by omega)).1
 have p2:(zzQ env ctx (.mk 12 0 [a,x]) 119).2.2.2=0→(normR (envI env) (lookR env) a 119).2.2=0∧(normR (envI env) (lookR env) x 119).2.2=0∧(zzQ env ctx x 119).2.2.2=0∧
  (zzQ env ctx (.mk 12 0 [a,x]) 119).1=.mk 11 0 [(normR (envI env) (lookR env) a 119).1,(normR (envI env) (lookR env) x 119).1,(normR (envI env) (lookR env) x 119).1]∧(zzQ env ctx x 119).1=(normR (envI env) (lookR env) a 119).1:=fun q=>by
  obtain⟨q1,q2,q3,q4,q5,q6⟩:=p2 q
  rw[q1];exact⟨q2,q3,q4,q5,q6⟩
 rw[zHr]at hU hV hL hW
 dsimp only[goV]at hN hM
 generalize zzQ env ctx (.mk 11 0 [a,x,y]) 119=R1 at hU p1 sU
 generalize zzQ env ctx (.mk 12 0 [a,x]) 119=R2 at hV p2 sV
 generalize zzQ env ctx a 119=R3 at hL p1
 generalize zzQ env ctx x 119=R4 at hW p2 sW
 generalize normR (envI env) (lookR env) a 119=R5 at hN p2
 generalize normR (envI env) (lookR env) x 119=R6 at hM p2
 obtain⟨u,_,_,e1⟩:=R1
 obtain⟨v,_,_,e2⟩:=R2
 obtain⟨l,_,_,e3⟩:=R3
 obtain⟨w,_,_,e4⟩:=R4
 obtain⟨n,_,e5⟩:=R5
 obtain⟨m,_,e6⟩:=R6
 dsimp only at hU hV hL hW hN hM p1 p2 sU sV sW
 have a1:e1=0→e3=0∧u.kind=2:=fun q=>⟨(p1 q).1,(p1 q).2.2⟩
 have a2:e2=0→e5=0∧e6=0∧e4=0:=fun q=>⟨(p2 q).1,(p2 q).2.1,(p2 q).2.2.1⟩
 have kU:e1=0→FC Tryz.prog 22 [aT u,aT l] (.bool true):=fun q=>by rw[←(p1 q).2.1];exact zpx u (by omega)
 have kV:e2=0→FC Tryz.prog 22 [aT v,aT (.mk 11 0 [n,m,m])] (.bool true):=fun q=>by rw[←(p2 q).2.2.2.1];exact zpx v (by omega)
 have kW:e2=0→FC Tryz.prog 22 [aT w,aT n] (.bool true):=fun q=>by rw[←(p2 q).2.2.2.2];exact zpx w (by omega)
 have t3:=rt3 11 n m m
 clear p1 p2 sU sV sW
 refine zo hty Tryz.func12 rfl rfl rfl fun w0=>?_
 repeat'(first|exact absurd rfl ‹_›|refine zL rfl he rfl (fun _=>?_) (fun _=>?_)|refine zL rfl hx rfl (fun _=>?_) (fun _=>?_)|refine zL rfl hv rfl (fun _=>?_) (fun _=>?_)|(refine zhH (id:=4) ?_;refine zab (zfY (l:=[(0,_),(1,_),(7,_),(8,_),(9,_),(11,_)]) (bl:=[(7,_),(8,_),(9,_)]) ⟨zz rfl rfl,zz rfl rfl,zz rfl rfl,zz rfl rfl,zz rfl rfl,zz rfl rfl,trivial⟩ ⟨zw rfl rfl,zw rfl rfl,zw rfl rfl,trivial⟩) ?_;refine zD (id:=4) zCd rfl (by kernel_rfl) ?_)|(refine zhH (id:=5) ?_;refine zab (zfY (l:=[(0,_),(1,_),(7,_),(8,_),(11,_),(12,_),(13,_)]) (bl:=[(7,_),(8,_),(12,_),(13,_)]) ⟨zz rfl rfl,zz rfl rfl,zz rfl rfl,zz rfl rfl,zz rfl rfl,zz rfl rfl,zz rfl rfl,trivial⟩ ⟨zw rfl rfl,zw rfl rfl,zw rfl rfl,zw rfl rfl,trivial⟩) ?_;refine za ?_)|(refine zhH (id:=7) ?_;refine zab (zfY (l:=[(0,_),(1,_),(7,_),(8,_),(11,_),(12,_),(13,_)]) (bl:=[(7,_),(8,_),(12,_),(13,_)]) ⟨zz rfl rfl,zz rfl rfl,zz rfl rfl,zz rfl rfl,zz rfl rfl,zz rfl rfl,zz rfl rfl,trivial⟩ ⟨zw rfl rfl,zw rfl rfl,zw rfl rfl,zw rfl rfl,trivial⟩) ?_;refine za ?_)|(refine zhH (id:=8) ?_;refine zab (zfY (l:=[(0,_),(1,_),(7,_),(8,_),(11,_),(13,_),(14,_),(17,_)]) (bl:=[(7,_),(8,_),(13,_),(14,_)]) ⟨zz rfl rfl,zz rfl rfl,zz rfl rfl,zz rfl rfl,zz rfl rfl,zz rfl rfl,zz rfl rfl,zz rfl rfl,trivial⟩ ⟨zw rfl rfl,zw rfl rfl,zw rfl rfl,zw rfl rfl,trivial⟩) ?_;refine za ?_)|(refine zhH (id:=9) ?_;refine zab (zfY (l:=[(0,_),(1,_),(7,_),(8,_),(11,_),(14,_),(17,_),(18,_),(21,_)]) (bl:=[(7,_),(8,_),(14,_),(18,_)]) ⟨zz rfl rfl,zz rfl rfl,zz rfl rfl,zz rfl rfl,zz rfl rfl,zz rfl rfl,zz rfl rfl,zz rfl rfl,zz rfl rfl,trivial⟩ ⟨zw rfl rfl,zw rfl rfl,zw rfl rfl,zw rfl rfl,trivial⟩) ?_;refine za ?_)|(refine zhH (id:=11) ?_;refine zab (zfY (l:=[(0,_),(1,_),(7,_),(8,_),(11,_),(14,_),(18,_),(21,_),(22,_),(25,_)]) (bl:=[(7,_),(8,_),(14,_),(18,_),(22,_)]) ⟨zz rfl rfl,zz rfl rfl,zz rfl rfl,zz rfl rfl,zz rfl rfl,zz rfl rfl,zz rfl rfl,zz rfl rfl,zz rfl rfl,zz rfl rfl,trivial⟩ ⟨zw rfl rfl,zw rfl rfl,zw rfl rfl,zw rfl rfl,zw rfl rfl,trivial⟩) ?_;refine za ?_)|(refine zhH (id:=13) ?_;refine zab (zfY (l:=[(0,_),(1,_),(7,_),(8,_),(11,_),(18,_),(21,_)]) (bl:=[(7,_),(8,_),(18,_)]) ⟨zz rfl rfl,zz rfl rfl,zz rfl rfl,zz rfl rfl,zz rfl rfl,zz rfl rfl,zz rfl rfl,trivial⟩ ⟨zw rfl rfl,zw rfl rfl,zw rfl rfl,trivial⟩) ?_;refine za ?_)|(refine zhH (id:=16) ?_;refine zab (zfY (l:=[(0,_),(1,_),(8,_),(11,_),(18,_),(26,_),(28,_)]) (bl:=[(8,_),(18,_),(26,_)]) ⟨zz rfl rfl,zz rfl rfl,zz rfl rfl,zz rfl rfl,zz rfl rfl,zz rfl rfl,zz rfl rfl,trivial⟩ ⟨zw rfl rfl,zw rfl rfl,zw rfl rfl,trivial⟩) ?_;refine za ?_)|(refine zhH (id:=17) ?_;refine zab (zfY (l:=[(0,_),(1,_),(8,_),(11,_),(18,_),(26,_),(28,_),(29,_),(31,_)]) (bl:=[(8,_),(18,_),(26,_),(29,_)]) ⟨zz rfl rfl,zz rfl rfl,zz rfl rfl,zz rfl rfl,zz rfl rfl,zz rfl rfl,zz rfl rfl,zz rfl rfl,zz rfl rfl,trivial⟩ ⟨zw rfl rfl,zw rfl rfl,zw rfl rfl,zw rfl rfl,trivial⟩) ?_;refine za ?_)|(refine zhH (id:=18) ?_;refine zab (zfY (l:=[(11,_),(18,_),(26,_),(28,_),(29,_),(31,_),(32,_),(35,_)]) (bl:=[(18,_),(26,_),(29,_),(32,_)]) ⟨zz rfl rfl,zz rfl rfl,zz rfl rfl,zz rfl rfl,zz rfl rfl,zz rfl rfl,zz rfl rfl,zz rfl rfl,trivial⟩ ⟨zw rfl rfl,zw rfl rfl,zw rfl rfl,zw rfl rfl,trivial⟩) ?_;refine zD (id:=18) zFy rfl (by kernel_rfl) ?_)|refine zu (.inl ⟨rfl,zct 0 rfl rfl rfl t1 rfl rfl rfl⟩) ?_|refine zu (.inl ⟨rfl,zct 0 rfl rfl rfl t2 rfl rfl rfl⟩) ?_|refine zu (.inl ⟨rfl,zct 0 rfl rfl rfl t3 rfl rfl rfl⟩) ?_|refine zv 0 rfl k1 rfl rfl rfl ?_|refine zv 0 rfl k2 rfl rfl rfl ?_|refine zv 0 rfl hU rfl rfl rfl ?_|refine zv 0 rfl hV rfl rfl rfl ?_|refine zv 0 rfl hL rfl rfl rfl ?_|refine zv 0 rfl hW rfl rfl rfl ?_|refine zv 0 rfl hN rfl rfl rfl ?_|refine zv 0 rfl hM rfl rfl rfl ?_|refine zv 0 rfl (kU (by omega)) rfl rfl rfl ?_|refine zad 0 rfl (kV (by omega)) rfl rfl rfl ?_|refine zad 0 rfl (kW (by omega)) rfl rfl rfl ?_|refine zv 0 rfl hw rfl rfl rfl ?_|refine zad 0 rfl hw rfl rfl rfl ?_|refine zu (.inl ⟨rfl,zI hty rfl rfl⟩) ?_|refine zaG rfl rfl ?_|refine zau rfl rfl rfl ?_|refine zS ⟨by kernel_rfl,?_⟩|refine WL_p hty rfl rfl ?_|refine zh ?_|refine zi ?_|refine za ?_|refine zxg ?_|refine zd rfl ?_|refine zbZ rfl ?_|refine zg ?_|refine zx rfl rfl ?_|refine zot rfl rfl rfl ?_|refine zb rfl ?_|refine zj rfl rfl rfl rfl (fun _=>?_) (fun _=>?_)|refine zaC rfl rfl rfl rfl (fun _=>?_) (fun _=>?_))
 all_goals first
  |rfl
  |(exfalso;omega)
end Go.Proofs.YtokfbblhjpfjkaaGreat
