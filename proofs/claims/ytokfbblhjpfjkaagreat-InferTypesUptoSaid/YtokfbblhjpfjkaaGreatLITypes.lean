/- A function's type, a pair's type, is of the greater one of its parts' levels; wi -/
import Derived.Test.YtokfbblhjpfjkaaGreatLIIds
import Derived.Test.YtokfbblhjpfjkaaGreatLInferP
import Derived.Test.YtokfbblhjpfjkaaGreatGK
set_option linter.unusedSimpArgs false
set_option linter.unusedVariables false
namespace Go.Proofs.YtokfbblhjpfjkaaGreat
open Go.Aw Go.RowKit
def zCK:List (Nat×List Nat):=[(0,[100900]),(1,[100900]),(2,[1]),(3,[100900]),(4,[3,100900]),(5,[1,2,3,4]),(6,[100900]),(7,[0,1,2,3,4,5,6]),(8,[0,1,2,3,4,5,6,7]),(9,[0,1,2,3,4,5,6,7,8]),(10,[0,1,2,3,4,5,6,7,8]),(11,[0,1,2,3,4,5,6,7,8]),(12,[0,1,2,3,4,5,6,7,8]),(13,[]),(14,[0,1,2,3,4,5,6,7,8,9,13]),(15,[0,1,2,3,4,5,6,7,8,9,10,13,14]),(16,[0,1,2,3,4,5,6,7,8,9,10,11,13,14,15]),(17,[0,1,2,3,4,5,6,7,8,9,10,11,12,13,14,15,16])]
attribute [local irreducible] WL AC WD WE MStep OkOp
attribute [local irreducible] zfd zvN
theorem zIb{env:List En}{ctx:List Tm}(hb: ¬(envI env=0∧zDa env ctx=0)){t:Tm}(hc:checkT t=0){F:Int}:(zzQ env ctx t F).2.2.2=ctxR env ctx∧ctxR env ctx≠0:=by
 have hne:ctxR env ctx≠0:=by
  unfold ctxR
  by_cases q:envI env=0
  ·rw[if_neg (fun r=>r q)];exact fun r=>hb ⟨q,r⟩
  ·rw[if_pos q];exact q
 have hA:zC5 env ctx t F=ctxR env ctx:=by
  unfold zC5
  unfold ctxR at hne⊢
  by_cases q:envI env=0
  ·rw[if_neg (fun r=>r q)]at hne
   have n0: ¬(envI env≠0):=fun r=>r q
   rw[if_neg n0,if_neg n0,if_pos hne]
  ·rw[if_pos q,if_pos q]
 rw[zC1 (by rw[hA];exact hne)]
 exact⟨hA,hne⟩
theorem zIo(a b:Int):max a b=(if b>a then b else a):=by split <;>omega
theorem zHM{env:List En}{ctx:List Tm}{k:Int}{a b:Tm}(hk:k=4∨k=7)(hl:ctx.length <40)(hc:checkT (.mk k 0 [a,b])=0):
 ((zzQ env ctx a 119).2.2.2≠0→(zzQ env ctx a 119).2.2.2=7∨(zzQ env ctx (.mk k 0 [a,b]) 300).2.2.2=(zzQ env ctx a 119).2.2.2)∧
 ((zzQ env ctx a 119).2.2.2=0→(zzQ env ctx a 119).1.kind≠2→(zzQ env ctx (.mk k 0 [a,b]) 300).2.2.2=8)∧
 ((zzQ env ctx a 119).2.2.2=0→(zzQ env ctx a 119).1.kind=2→(normR (envI env) (lookR env) a 60).2.2=0→
   ((zzQ env (ctx++[(normR (envI env) (lookR env) a 60).1]) b 60).2.2.2≠0→(zzQ env (ctx++[(normR (envI env) (lookR env) a 60).1]) b 60).2.2.2=7∨(zzQ env ctx (.mk k 0 [a,b]) 300).2.2.2=(zzQ env (ctx++[(normR (envI env) (lookR env) a 60).1]) b 60).2.2.2)∧
   ((zzQ env (ctx++[(normR (envI env) (lookR env) a 60).1]) b 60).2.2.2=0→((zzQ env (ctx++[(normR (envI env) (lookR env) a 60).1]) b 60).1.kind≠2→(zzQ env ctx (.mk k 0 [a,b]) 300).2.2.2=8)∧
     ((zzQ env (ctx++[(normR (envI env) (lookR env) a 60).1]) b 60).1.kind=2→(zzQ env ctx (.mk k 0 [a,b]) 300).2.2.2=0∧(zzQ env ctx (.mk k 0 [a,b]) 300).1.kind=2∧
       (zzQ env ctx (.mk k 0 [a,b]) 300).1.num=(if(zzQ env (ctx++[(normR (envI env) (lookR env) a 60).1]) b 60).1.num>(zzQ env ctx a 119).1.num then(zzQ env (ctx++[(normR (envI env) (lookR env) a 60).1]) b 60).1.num else(zzQ env ctx a 119).1.num)))):=by
 by_cases hb:envI env=0∧zDa env ctx=0
 ·obtain⟨hE,hcx⟩:=hb
  rw[hE]
  obtain⟨p1,p2,p3⟩:=zHV hk hE hcx hl hc
  refine⟨p1,p2,fun q1 q2 q3=>?_⟩
  obtain⟨p4,p5⟩:=p3 q1 q2 q3
  refine⟨p4,fun q4=>⟨(p5 q4).1,fun q5=>?_⟩⟩
  obtain⟨p6,p7⟩:=(p5 q4).2 q5
  rw[p7]
  exact⟨p6,rfl,zIo _ _⟩
 ·have hk2:kidsR k=2:=by rcases hk with rfl|rfl <;>decide
  obtain⟨ca,cb⟩:=zzF (zGC hk2 (by decide) hc)
  have e1:=zIb hb ca (F:=119)
  have e2:=zIb hb hc (F:=300)
  refine⟨fun _=>.inr (by rw[e1.1,e2.1]),fun q=>absurd (e1.1▸q) e1.2,fun q=>absurd (e1.1▸q) e1.2⟩
theorem zHW{e0 xk xn eN e3 zk zn e1 yk yn:Int}
 (p:(e0≠0→e0=7∨e1=e0)∧(e0=0→xk≠2→e1=8)∧(e0=0→xk=2→eN=0→(e3≠0→e3=7∨e1=e3)∧(e3=0→(zk≠2→e1=8)∧(zk=2→e1=0∧yk=2∧yn=(if zn>xn then zn else xn))))):
 (e0≠0∧(e0=7∨e1=e0))∨(e0=0∧xk≠2∧e1=8)∨(e0=0∧xk=2∧eN≠0)∨(e0=0∧xk=2∧eN=0∧e3≠0∧(e3=7∨e1=e3))∨(e0=0∧xk=2∧eN=0∧e3=0∧zk≠2∧e1=8)∨(e0=0∧xk=2∧eN=0∧e3=0∧zk=2∧e1=0∧yk=2∧yn=(if zn>xn then zn else xn)):=by
 obtain⟨p1,p2,p3⟩:=p
 by_cases q0:e0=0
 case neg=>exact .inl ⟨q0,p1 q0⟩
 refine .inr ?_
 by_cases q1:xk=2
 case neg=>exact .inl ⟨q0,q1,p2 q0 q1⟩
 refine .inr ?_
 by_cases q2:eN=0
 case neg=>exact .inl ⟨q0,q1,q2⟩
 refine .inr ?_
 obtain⟨p4,p5⟩:=p3 q0 q1 q2
 by_cases q3:e3=0
 case neg=>exact .inl ⟨q0,q1,q2,q3,p4 q3⟩
 refine .inr ?_
 by_cases q4:zk=2
 case neg=>exact .inl ⟨q0,q1,q2,q3,q4,(p5 q3).1 q4⟩
 exact .inr ⟨q0,q1,q2,q3,q4,(p5 q3).2 q4⟩
set_option maxHeartbeats 32000000 in
theorem zGp(env:List En)(ctx:List Tm)(a b:Tm)(sig:Bool)(k:Int)(hk:k=if sig=true then 7 else 4)(h:zbJ env+sizes ctx+a.size+b.size≤400000):FC Tryz.prog 13 [sE env,sT ctx,aT a,aT b,.bool sig] (.bool true):=by
 have hlx:=zM ctx
 have hrx:=zeb ctx
 have he:=znh env (by omega)
 have hx:=zD0 ctx (by omega)
 have hv:=ztW a b (by simp only[sizes];omega)
 have hw:=zDE
 have t1:=rt2 k a b
 have z2:(Tm.mk k 0 [a,b]).size=1+(a.size+(b.size+0)):=by simp only[Tm.size,sizes]
 have kc:=zo2 (.mk k 0 [a,b]) (by omega)
 have hk47:k=4∨k=7:=by rw[hk];cases sig <;>simp
 by_cases hc:ctx.length <40∧checkT (.mk k 0 [a,b])=0
 case neg=>
  generalize checkT (.mk k 0 [a,b])=ec at kc hc
  cases sig
  all_goals
   simp only[Bool.false_eq_true,if_false,if_true]at hk
   subst hk
   refine zo hty Tryz.func13 rfl rfl rfl fun w0=>?_
   repeat'(first|(exfalso;omega)|refine zL rfl he rfl (fun _=>?_) (fun _=>?_)|refine zL rfl hx rfl (fun _=>?_) (fun _=>?_)|refine zL rfl hv rfl (fun _=>?_) (fun _=>?_)|refine zv 0 rfl t1 rfl rfl rfl ?_|refine zv 0 rfl kc rfl rfl rfl ?_|refine WL_p hty rfl rfl ?_|refine zh ?_|refine zi ?_|refine za ?_|refine zxg ?_|refine zd rfl ?_|refine zbZ rfl ?_|refine zg ?_|refine zx rfl rfl ?_|refine zq rfl rfl rfl ?_|refine zot rfl rfl rfl ?_|refine zr rfl rfl rfl ?_|refine zb rfl ?_|refine zj rfl rfl rfl rfl (fun _=>?_) (fun _=>?_)|refine zDp rfl (fun _=>?_) (fun _=>?_))
   all_goals first
    |rfl
    |(exfalso;omega)
 obtain⟨hl,hc⟩:=hc
 rw[hc]at kc
 have p:=zHW (zHM (env:=env) hk47 hl hc)
 have hlk:=zuW env (by omega)
 have hA:=zCz env ctx a 119 (by omega) (by omega) (by omega)
 have hT:=zCz env ctx (.mk k 0 [a,b]) 300 (by omega) (by omega) (by omega)
 have hN:=zxV hlk a 60 (by omega)
 have hB:(normR (envI env) (lookR env) a 60).2.2=0→FC Tryz.prog 33 [sE env,.lst 3 (rsT ctx++[cT (normR (envI env) (lookR env) a 60).1]) false,aT b,.int .i64 60] (zF6 (zzQ env (ctx++[(normR (envI env) (lookR env) a 60).1]) b 60)):=fun q=>by
  obtain⟨_,hca,hch,_⟩:=zzb q (by omega) (by omega)
  have hs:=(zcH (zyf hch hca).1).1
  have:=zCz env (ctx++[(normR (envI env) (lookR env) a 60).1]) b 60 (by omega) (by rw[zax];simp only[sizes];omega) (by omega)
  simp only[sT,zas,rs1]at this⊢
  exact this
 rw[zHr]at hA hT hB
 dsimp only[goV]at hN
 generalize zzQ env ctx a 119=R0 at hA p
 generalize zzQ env ctx (.mk k 0 [a,b]) 300=R1 at hT p
 generalize normR (envI env) (lookR env) a 60=R2 at hN hB p
 obtain⟨n,_,eN⟩:=R2
 dsimp only at hN hB p
 generalize zzQ env (ctx++[n]) b 60=R3 at hB p
 obtain⟨x,_,_,e0⟩:=R0
 obtain⟨y,_,_,e1⟩:=R1
 obtain⟨z,_,_,e3⟩:=R3
 dsimp only at hA hT hB p
 have hTw:=zHk ctx (by omega)
 clear hk47 hc hlk
 rcases p with⟨p1,p2⟩|⟨rfl,p2,rfl⟩|⟨rfl,p2,p3⟩|⟨rfl,p2,rfl,p3,p4⟩|⟨rfl,p2,rfl,rfl,p3,rfl⟩|⟨rfl,p2,rfl,rfl,p3,rfl,p4,p5⟩
 ·clear hB
  cases sig
  all_goals
   simp only[Bool.false_eq_true,if_false,if_true]at hk
   subst hk
   refine zo hty Tryz.func13 rfl rfl rfl fun w0=>?_
   repeat'(first|exact absurd rfl ‹_›|(exfalso;omega)|refine zL rfl he rfl (fun _=>?_) (fun _=>?_)|refine zL rfl hx rfl (fun _=>?_) (fun _=>?_)|refine zL rfl hv rfl (fun _=>?_) (fun _=>?_)|refine zv 0 rfl t1 rfl rfl rfl ?_|refine zv 0 rfl kc rfl rfl rfl ?_|refine zv 0 rfl hA rfl rfl rfl ?_|refine zv 0 rfl hT rfl rfl rfl ?_|(refine zhH (id:=9) ?_;refine zab (zfY (l:=[(0,_),(1,_),(7,_),(8,_),(12,_)]) (bl:=[(7,_),(8,_),(12,_)]) ⟨zz rfl rfl,zz rfl rfl,zz rfl rfl,zz rfl rfl,zz rfl rfl,trivial⟩ ⟨zw rfl rfl,zw rfl rfl,zw rfl rfl,trivial⟩) ?_;refine za ?_)|(refine zhH (id:=10) ?_;refine zab (zfY (l:=[(0,_),(1,_),(7,_),(8,_),(12,_),(13,_),(16,_)]) (bl:=[(7,_),(8,_),(12,_),(13,_)]) ⟨zz rfl rfl,zz rfl rfl,zz rfl rfl,zz rfl rfl,zz rfl rfl,zz rfl rfl,zz rfl rfl,trivial⟩ ⟨zw rfl rfl,zw rfl rfl,zw rfl rfl,zw rfl rfl,trivial⟩) ?_;refine za ?_)|(refine zhH (id:=11) ?_;refine zab (zfY (l:=[(0,_),(1,_),(7,_),(8,_),(13,_),(16,_),(17,_),(20,_)]) (bl:=[(7,_),(8,_),(13,_),(17,_)]) ⟨zz rfl rfl,zz rfl rfl,zz rfl rfl,zz rfl rfl,zz rfl rfl,zz rfl rfl,zz rfl rfl,zz rfl rfl,trivial⟩ ⟨zw rfl rfl,zw rfl rfl,zw rfl rfl,zw rfl rfl,trivial⟩) ?_;refine za ?_)|refine zv 0 rfl hN rfl rfl rfl ?_|refine WL_m rfl (zey rfl rfl rfl) ?_|refine zv 0 rfl hw rfl rfl rfl ?_|refine zu (.inl ⟨rfl,zI hty rfl rfl⟩) ?_|refine zS ⟨by kernel_rfl,?_⟩|refine WL_p hty rfl rfl ?_|refine zh ?_|refine zi ?_|refine za ?_|refine zxg ?_|refine zd rfl ?_|refine zbZ rfl ?_|refine zg ?_|refine zx rfl rfl ?_|refine zq rfl rfl rfl ?_|refine zot rfl rfl rfl ?_|refine zr rfl rfl rfl ?_|refine zb rfl ?_|refine zj rfl rfl rfl rfl (fun _=>?_) (fun _=>?_)|refine zDp rfl (fun _=>?_) (fun _=>?_))
   all_goals first
    |rfl
    |(exfalso;omega)
 ·clear hB
  cases sig
  all_goals
   simp only[Bool.false_eq_true,if_false,if_true]at hk
   subst hk
   refine zo hty Tryz.func13 rfl rfl rfl fun w0=>?_
   repeat'(first|exact absurd rfl ‹_›|(exfalso;omega)|refine zL rfl he rfl (fun _=>?_) (fun _=>?_)|refine zL rfl hx rfl (fun _=>?_) (fun _=>?_)|refine zL rfl hv rfl (fun _=>?_) (fun _=>?_)|refine zv 0 rfl t1 rfl rfl rfl ?_|refine zv 0 rfl kc rfl rfl rfl ?_|refine zv 0 rfl hA rfl rfl rfl ?_|refine zv 0 rfl hT rfl rfl rfl ?_|(refine zhH (id:=9) ?_;refine zab (zfY (l:=[(0,_),(1,_),(7,_),(8,_),(12,_)]) (bl:=[(7,_),(8,_),(12,_)]) ⟨zz rfl rfl,zz rfl rfl,zz rfl rfl,zz rfl rfl,zz rfl rfl,trivial⟩ ⟨zw rfl rfl,zw rfl rfl,zw rfl rfl,trivial⟩) ?_;refine za ?_)|(refine zhH (id:=10) ?_;refine zab (zfY (l:=[(0,_),(1,_),(7,_),(8,_),(12,_),(13,_),(16,_)]) (bl:=[(7,_),(8,_),(12,_),(13,_)]) ⟨zz rfl rfl,zz rfl rfl,zz rfl rfl,zz rfl rfl,zz rfl rfl,zz rfl rfl,zz rfl rfl,trivial⟩ ⟨zw rfl rfl,zw rfl rfl,zw rfl rfl,zw rfl rfl,trivial⟩) ?_;refine za ?_)|(refine zhH (id:=11) ?_;refine zab (zfY (l:=[(0,_),(1,_),(7,_),(8,_),(13,_),(16,_),(17,_),(20,_)]) (bl:=[(7,_),(8,_),(13,_),(17,_)]) ⟨zz rfl rfl,zz rfl rfl,zz rfl rfl,zz rfl rfl,zz rfl rfl,zz rfl rfl,zz rfl rfl,zz rfl rfl,trivial⟩ ⟨zw rfl rfl,zw rfl rfl,zw rfl rfl,zw rfl rfl,trivial⟩) ?_;refine za ?_)|refine zv 0 rfl hN rfl rfl rfl ?_|refine WL_m rfl (zey rfl rfl rfl) ?_|refine zv 0 rfl hw rfl rfl rfl ?_|refine zu (.inl ⟨rfl,zI hty rfl rfl⟩) ?_|refine zS ⟨by kernel_rfl,?_⟩|refine WL_p hty rfl rfl ?_|refine zh ?_|refine zi ?_|refine za ?_|refine zxg ?_|refine zd rfl ?_|refine zbZ rfl ?_|refine zg ?_|refine zx rfl rfl ?_|refine zq rfl rfl rfl ?_|refine zot rfl rfl rfl ?_|refine zr rfl rfl rfl ?_|refine zb rfl ?_|refine zj rfl rfl rfl rfl (fun _=>?_) (fun _=>?_)|refine zDp rfl (fun _=>?_) (fun _=>?_))
   all_goals first
    |rfl
    |(exfalso;omega)
 ·clear hB
  cases sig
  all_goals
   simp only[Bool.false_eq_true,if_false,if_true]at hk
   subst hk
   refine zo hty Tryz.func13 rfl rfl rfl fun w0=>?_
   repeat'(first|exact absurd rfl ‹_›|(exfalso;omega)|refine zL rfl he rfl (fun _=>?_) (fun _=>?_)|refine zL rfl hx rfl (fun _=>?_) (fun _=>?_)|refine zL rfl hv rfl (fun _=>?_) (fun _=>?_)|refine zv 0 rfl t1 rfl rfl rfl ?_|refine zv 0 rfl kc rfl rfl rfl ?_|refine zv 0 rfl hA rfl rfl rfl ?_|refine zv 0 rfl hT rfl rfl rfl ?_|(refine zhH (id:=9) ?_;refine zab (zfY (l:=[(0,_),(1,_),(7,_),(8,_),(12,_)]) (bl:=[(7,_),(8,_),(12,_)]) ⟨zz rfl rfl,zz rfl rfl,zz rfl rfl,zz rfl rfl,zz rfl rfl,trivial⟩ ⟨zw rfl rfl,zw rfl rfl,zw rfl rfl,trivial⟩) ?_;refine za ?_)|(refine zhH (id:=10) ?_;refine zab (zfY (l:=[(0,_),(1,_),(7,_),(8,_),(12,_),(13,_),(16,_)]) (bl:=[(7,_),(8,_),(12,_),(13,_)]) ⟨zz rfl rfl,zz rfl rfl,zz rfl rfl,zz rfl rfl,zz rfl rfl,zz rfl rfl,zz rfl rfl,trivial⟩ ⟨zw rfl rfl,zw rfl rfl,zw rfl rfl,zw rfl rfl,trivial⟩) ?_;refine za ?_)|(refine zhH (id:=11) ?_;refine zab (zfY (l:=[(0,_),(1,_),(7,_),(8,_),(13,_),(16,_),(17,_),(20,_)]) (bl:=[(7,_),(8,_),(13,_),(17,_)]) ⟨zz rfl rfl,zz rfl rfl,zz rfl rfl,zz rfl rfl,zz rfl rfl,zz rfl rfl,zz rfl rfl,zz rfl rfl,trivial⟩ ⟨zw rfl rfl,zw rfl rfl,zw rfl rfl,zw rfl rfl,trivial⟩) ?_;refine za ?_)|refine zv 0 rfl hN rfl rfl rfl ?_|refine WL_m rfl (zey rfl rfl rfl) ?_|refine zv 0 rfl hw rfl rfl rfl ?_|refine zu (.inl ⟨rfl,zI hty rfl rfl⟩) ?_|refine zS ⟨by kernel_rfl,?_⟩|refine WL_p hty rfl rfl ?_|refine zh ?_|refine zi ?_|refine za ?_|refine zxg ?_|refine zd rfl ?_|refine zbZ rfl ?_|refine zg ?_|refine zx rfl rfl ?_|refine zq rfl rfl rfl ?_|refine zot rfl rfl rfl ?_|refine zr rfl rfl rfl ?_|refine zb rfl ?_|refine zj rfl rfl rfl rfl (fun _=>?_) (fun _=>?_)|refine zDp rfl (fun _=>?_) (fun _=>?_))
   all_goals first
    |rfl
    |(exfalso;omega)
 ·have hB:=hB rfl
  cases sig
  all_goals
   simp only[Bool.false_eq_true,if_false,if_true]at hk
   subst hk
   simp only[znb,sT]at hTw hA hT hx⊢
   rcases hrc:rsT ctx with _|⟨r0,rs⟩
   all_goals
    rw[hrc]at hTw hB hrx hA hT hx
    refine zo hty Tryz.func13 rfl rfl rfl fun w0=>?_
    repeat'(first|exact absurd rfl ‹_›|(exfalso;omega)|refine zL rfl he rfl (fun _=>?_) (fun _=>?_)|refine zL rfl hx rfl (fun _=>?_) (fun _=>?_)|refine zL rfl hv rfl (fun _=>?_) (fun _=>?_)|refine zv 0 rfl t1 rfl rfl rfl ?_|refine zv 0 rfl kc rfl rfl rfl ?_|refine zv 0 rfl hA rfl rfl rfl ?_|refine zv 0 rfl hT rfl rfl rfl ?_|(refine zhH (id:=9) ?_;refine zab (zfY (l:=[(0,_),(1,_),(7,_),(8,_),(12,_)]) (bl:=[(7,_),(8,_),(12,_)]) ⟨zz rfl rfl,zz rfl rfl,zz rfl rfl,zz rfl rfl,zz rfl rfl,trivial⟩ ⟨zw rfl rfl,zw rfl rfl,zw rfl rfl,trivial⟩) ?_;refine za ?_)|(refine zhH (id:=10) ?_;refine zab (zfY (l:=[(0,_),(1,_),(7,_),(8,_),(12,_),(13,_),(16,_)]) (bl:=[(7,_),(8,_),(12,_),(13,_)]) ⟨zz rfl rfl,zz rfl rfl,zz rfl rfl,zz rfl rfl,zz rfl rfl,zz rfl rfl,zz rfl rfl,trivial⟩ ⟨zw rfl rfl,zw rfl rfl,zw rfl rfl,zw rfl rfl,trivial⟩) ?_;refine za ?_)|(refine zhH (id:=11) ?_;refine zab (zfY (l:=[(0,_),(1,_),(7,_),(8,_),(13,_),(16,_),(17,_),(20,_)]) (bl:=[(7,_),(8,_),(13,_),(17,_)]) ⟨zz rfl rfl,zz rfl rfl,zz rfl rfl,zz rfl rfl,zz rfl rfl,zz rfl rfl,zz rfl rfl,zz rfl rfl,trivial⟩ ⟨zw rfl rfl,zw rfl rfl,zw rfl rfl,zw rfl rfl,trivial⟩) ?_;refine za ?_)|refine zv 0 rfl hN rfl rfl rfl ?_|refine WL_m rfl (zey rfl rfl rfl) ?_|refine zv 0 rfl hw rfl rfl rfl ?_|(refine zhH (id:=16) ?_;refine zab (zfY (l:=[(0,_),(1,_),(8,_),(13,_),(17,_),(20,_),(21,_),(23,_)]) (bl:=[(8,_),(13,_),(17,_),(21,_)]) ⟨zz rfl rfl,zz rfl rfl,zz rfl rfl,zz rfl rfl,zz rfl rfl,zz rfl rfl,zz rfl rfl,zz rfl rfl,trivial⟩ ⟨zw rfl rfl,zw rfl rfl,zw rfl rfl,zw rfl rfl,trivial⟩) ?_;refine za ?_)|(refine zhH (id:=18) ?_;refine zab (zfY (l:=[(0,_),(1,_),(8,_),(13,_),(17,_),(20,_),(21,_)]) (bl:=[(8,_),(13,_),(17,_),(21,_)]) ⟨zz rfl rfl,zz rfl rfl,zz rfl rfl,zz rfl rfl,zz rfl rfl,zz rfl rfl,zz rfl rfl,trivial⟩ ⟨zw rfl rfl,zw rfl rfl,zw rfl rfl,zw rfl rfl,trivial⟩) ?_;refine zD (id:=18) zCK rfl (by kernel_rfl) ?_)|(refine zhH (id:=19) ?_;refine zab (zfY (l:=[(13,_),(17,_),(20,_),(24,_),(27,_)]) (bl:=[(13,_),(17,_),(24,_)]) ⟨zz rfl rfl,zz rfl rfl,zz rfl rfl,zz rfl rfl,zz rfl rfl,trivial⟩ ⟨zw rfl rfl,zw rfl rfl,zw rfl rfl,trivial⟩) ?_;refine za ?_)|refine zad 900 rfl hTw rfl rfl rfl ?_|refine zbc rfl (zwj hty 901 rfl rfl rfl rfl rfl rfl rfl (by simp) (by simp) rfl rfl rfl) ?_|refine zbc rfl (zzi hty 901 rfl rfl rfl rfl rfl rfl rfl rfl (by simp) (by simp only[List.length_cons,List.length_nil]at*;omega) rfl rfl rfl) ?_|refine zad 0 rfl hB rfl rfl rfl ?_|refine zu (.inl ⟨rfl,zI hty rfl rfl⟩) ?_|refine zS ⟨by kernel_rfl,?_⟩|refine WL_p hty rfl rfl ?_|refine zh ?_|refine zi ?_|refine za ?_|refine zxg ?_|refine zd rfl ?_|refine zbZ rfl ?_|refine zg ?_|refine zx rfl rfl ?_|refine zq rfl rfl rfl ?_|refine zot rfl rfl rfl ?_|refine zr rfl rfl rfl ?_|refine zb rfl ?_|refine zj rfl rfl rfl rfl (fun _=>?_) (fun _=>?_)|refine zDp rfl (fun _=>?_) (fun _=>?_))
    all_goals first
     |rfl
     |(exfalso;omega)
 ·have hB:=hB rfl
  cases sig
  all_goals
   simp only[Bool.false_eq_true,if_false,if_true]at hk
   subst hk
   simp only[znb,sT]at hTw hA hT hx⊢
   rcases hrc:rsT ctx with _|⟨r0,rs⟩
   all_goals
    rw[hrc]at hTw hB hrx hA hT hx
    refine zo hty Tryz.func13 rfl rfl rfl fun w0=>?_
    repeat'(first|exact absurd rfl ‹_›|(exfalso;omega)|refine zL rfl he rfl (fun _=>?_) (fun _=>?_)|refine zL rfl hx rfl (fun _=>?_) (fun _=>?_)|refine zL rfl hv rfl (fun _=>?_) (fun _=>?_)|refine zv 0 rfl t1 rfl rfl rfl ?_|refine zv 0 rfl kc rfl rfl rfl ?_|refine zv 0 rfl hA rfl rfl rfl ?_|refine zv 0 rfl hT rfl rfl rfl ?_|(refine zhH (id:=9) ?_;refine zab (zfY (l:=[(0,_),(1,_),(7,_),(8,_),(12,_)]) (bl:=[(7,_),(8,_),(12,_)]) ⟨zz rfl rfl,zz rfl rfl,zz rfl rfl,zz rfl rfl,zz rfl rfl,trivial⟩ ⟨zw rfl rfl,zw rfl rfl,zw rfl rfl,trivial⟩) ?_;refine za ?_)|(refine zhH (id:=10) ?_;refine zab (zfY (l:=[(0,_),(1,_),(7,_),(8,_),(12,_),(13,_),(16,_)]) (bl:=[(7,_),(8,_),(12,_),(13,_)]) ⟨zz rfl rfl,zz rfl rfl,zz rfl rfl,zz rfl rfl,zz rfl rfl,zz rfl rfl,zz rfl rfl,trivial⟩ ⟨zw rfl rfl,zw rfl rfl,zw rfl rfl,zw rfl rfl,trivial⟩) ?_;refine za ?_)|(refine zhH (id:=11) ?_;refine zab (zfY (l:=[(0,_),(1,_),(7,_),(8,_),(13,_),(16,_),(17,_),(20,_)]) (bl:=[(7,_),(8,_),(13,_),(17,_)]) ⟨zz rfl rfl,zz rfl rfl,zz rfl rfl,zz rfl rfl,zz rfl rfl,zz rfl rfl,zz rfl rfl,zz rfl rfl,trivial⟩ ⟨zw rfl rfl,zw rfl rfl,zw rfl rfl,zw rfl rfl,trivial⟩) ?_;refine za ?_)|refine zv 0 rfl hN rfl rfl rfl ?_|refine WL_m rfl (zey rfl rfl rfl) ?_|refine zv 0 rfl hw rfl rfl rfl ?_|(refine zhH (id:=16) ?_;refine zab (zfY (l:=[(0,_),(1,_),(8,_),(13,_),(17,_),(20,_),(21,_),(23,_)]) (bl:=[(8,_),(13,_),(17,_),(21,_)]) ⟨zz rfl rfl,zz rfl rfl,zz rfl rfl,zz rfl rfl,zz rfl rfl,zz rfl rfl,zz rfl rfl,zz rfl rfl,trivial⟩ ⟨zw rfl rfl,zw rfl rfl,zw rfl rfl,zw rfl rfl,trivial⟩) ?_;refine za ?_)|(refine zhH (id:=18) ?_;refine zab (zfY (l:=[(0,_),(1,_),(8,_),(13,_),(17,_),(20,_),(21,_)]) (bl:=[(8,_),(13,_),(17,_),(21,_)]) ⟨zz rfl rfl,zz rfl rfl,zz rfl rfl,zz rfl rfl,zz rfl rfl,zz rfl rfl,zz rfl rfl,trivial⟩ ⟨zw rfl rfl,zw rfl rfl,zw rfl rfl,zw rfl rfl,trivial⟩) ?_;refine zD (id:=18) zCK rfl (by kernel_rfl) ?_)|(refine zhH (id:=19) ?_;refine zab (zfY (l:=[(13,_),(17,_),(20,_),(24,_),(27,_)]) (bl:=[(13,_),(17,_),(24,_)]) ⟨zz rfl rfl,zz rfl rfl,zz rfl rfl,zz rfl rfl,zz rfl rfl,trivial⟩ ⟨zw rfl rfl,zw rfl rfl,zw rfl rfl,trivial⟩) ?_;refine za ?_)|refine zad 900 rfl hTw rfl rfl rfl ?_|refine zbc rfl (zwj hty 901 rfl rfl rfl rfl rfl rfl rfl (by simp) (by simp) rfl rfl rfl) ?_|refine zbc rfl (zzi hty 901 rfl rfl rfl rfl rfl rfl rfl rfl (by simp) (by simp only[List.length_cons,List.length_nil]at*;omega) rfl rfl rfl) ?_|refine zad 0 rfl hB rfl rfl rfl ?_|refine zu (.inl ⟨rfl,zI hty rfl rfl⟩) ?_|refine zS ⟨by kernel_rfl,?_⟩|refine WL_p hty rfl rfl ?_|refine zh ?_|refine zi ?_|refine za ?_|refine zxg ?_|refine zd rfl ?_|refine zbZ rfl ?_|refine zg ?_|refine zx rfl rfl ?_|refine zq rfl rfl rfl ?_|refine zot rfl rfl rfl ?_|refine zr rfl rfl rfl ?_|refine zb rfl ?_|refine zj rfl rfl rfl rfl (fun _=>?_) (fun _=>?_)|refine zDp rfl (fun _=>?_) (fun _=>?_))
    all_goals first
     |rfl
     |(exfalso;omega)
 ·have hB:=hB rfl
  cases sig
  all_goals
   simp only[Bool.false_eq_true,if_false,if_true]at hk
   subst hk
   simp only[znb,sT]at hTw hA hT hx⊢
   rcases hrc:rsT ctx with _|⟨r0,rs⟩
   all_goals
    rw[hrc]at hTw hB hrx hA hT hx
    refine zo hty Tryz.func13 rfl rfl rfl fun w0=>?_
    repeat'(first|exact absurd rfl ‹_›|(exfalso;omega)|refine zL rfl he rfl (fun _=>?_) (fun _=>?_)|refine zL rfl hx rfl (fun _=>?_) (fun _=>?_)|refine zL rfl hv rfl (fun _=>?_) (fun _=>?_)|refine zv 0 rfl t1 rfl rfl rfl ?_|refine zv 0 rfl kc rfl rfl rfl ?_|refine zv 0 rfl hA rfl rfl rfl ?_|refine zv 0 rfl hT rfl rfl rfl ?_|(refine zhH (id:=9) ?_;refine zab (zfY (l:=[(0,_),(1,_),(7,_),(8,_),(12,_)]) (bl:=[(7,_),(8,_),(12,_)]) ⟨zz rfl rfl,zz rfl rfl,zz rfl rfl,zz rfl rfl,zz rfl rfl,trivial⟩ ⟨zw rfl rfl,zw rfl rfl,zw rfl rfl,trivial⟩) ?_;refine za ?_)|(refine zhH (id:=10) ?_;refine zab (zfY (l:=[(0,_),(1,_),(7,_),(8,_),(12,_),(13,_),(16,_)]) (bl:=[(7,_),(8,_),(12,_),(13,_)]) ⟨zz rfl rfl,zz rfl rfl,zz rfl rfl,zz rfl rfl,zz rfl rfl,zz rfl rfl,zz rfl rfl,trivial⟩ ⟨zw rfl rfl,zw rfl rfl,zw rfl rfl,zw rfl rfl,trivial⟩) ?_;refine za ?_)|(refine zhH (id:=11) ?_;refine zab (zfY (l:=[(0,_),(1,_),(7,_),(8,_),(13,_),(16,_),(17,_),(20,_)]) (bl:=[(7,_),(8,_),(13,_),(17,_)]) ⟨zz rfl rfl,zz rfl rfl,zz rfl rfl,zz rfl rfl,zz rfl rfl,zz rfl rfl,zz rfl rfl,zz rfl rfl,trivial⟩ ⟨zw rfl rfl,zw rfl rfl,zw rfl rfl,zw rfl rfl,trivial⟩) ?_;refine za ?_)|refine zv 0 rfl hN rfl rfl rfl ?_|refine WL_m rfl (zey rfl rfl rfl) ?_|refine zv 0 rfl hw rfl rfl rfl ?_|(refine zhH (id:=16) ?_;refine zab (zfY (l:=[(0,_),(1,_),(8,_),(13,_),(17,_),(20,_),(21,_),(23,_)]) (bl:=[(8,_),(13,_),(17,_),(21,_)]) ⟨zz rfl rfl,zz rfl rfl,zz rfl rfl,zz rfl rfl,zz rfl rfl,zz rfl rfl,zz rfl rfl,zz rfl rfl,trivial⟩ ⟨zw rfl rfl,zw rfl rfl,zw rfl rfl,zw rfl rfl,trivial⟩) ?_;refine za ?_)|(refine zhH (id:=18) ?_;refine zab (zfY (l:=[(0,_),(1,_),(8,_),(13,_),(17,_),(20,_),(21,_)]) (bl:=[(8,_),(13,_),(17,_),(21,_)]) ⟨zz rfl rfl,zz rfl rfl,zz rfl rfl,zz rfl rfl,zz rfl rfl,zz rfl rfl,zz rfl rfl,trivial⟩ ⟨zw rfl rfl,zw rfl rfl,zw rfl rfl,zw rfl rfl,trivial⟩) ?_;refine zD (id:=18) zCK rfl (by kernel_rfl) ?_)|(refine zhH (id:=19) ?_;refine zab (zfY (l:=[(13,_),(17,_),(20,_),(24,_),(27,_)]) (bl:=[(13,_),(17,_),(24,_)]) ⟨zz rfl rfl,zz rfl rfl,zz rfl rfl,zz rfl rfl,zz rfl rfl,trivial⟩ ⟨zw rfl rfl,zw rfl rfl,zw rfl rfl,trivial⟩) ?_;refine za ?_)|refine zad 900 rfl hTw rfl rfl rfl ?_|refine zbc rfl (zwj hty 901 rfl rfl rfl rfl rfl rfl rfl (by simp) (by simp) rfl rfl rfl) ?_|refine zbc rfl (zzi hty 901 rfl rfl rfl rfl rfl rfl rfl rfl (by simp) (by simp only[List.length_cons,List.length_nil]at*;omega) rfl rfl rfl) ?_|refine zad 0 rfl hB rfl rfl rfl ?_|refine zu (.inl ⟨rfl,zI hty rfl rfl⟩) ?_|refine zS ⟨by kernel_rfl,?_⟩|refine WL_p hty rfl rfl ?_|refine zh ?_|refine zi ?_|refine za ?_|refine zxg ?_|refine zd rfl ?_|refine zbZ rfl ?_|refine zg ?_|refine zx rfl rfl ?_|refine zq rfl rfl rfl ?_|refine zot rfl rfl rfl ?_|refine zr rfl rfl rfl ?_|refine zb rfl ?_|refine zj rfl rfl rfl rfl (fun _=>?_) (fun _=>?_)|refine zDp rfl (fun _=>?_) (fun _=>?_))
    all_goals first
     |rfl
     |(exfalso;omega)
theorem zGs(env:List En)(ctx:List Tm)(a b:Tm)(sig:Bool)(h:zbJ env+sizes ctx+a.size+b.size≤400000):FC Tryz.prog 13 [sE env,sT ctx,aT a,aT b,.bool sig] (.bool true):=zGp env ctx a b sig _ rfl h
end Go.Proofs.YtokfbblhjpfjkaaGreat
