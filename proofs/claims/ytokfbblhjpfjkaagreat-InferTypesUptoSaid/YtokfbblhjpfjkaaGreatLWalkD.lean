/- The types of pairs, their halves, identities, proofs that something is itself. -/
import Derived.Test.YtokfbblhjpfjkaaGreatLWalkC
set_option linter.unusedSimpArgs false
set_option linter.unusedVariables false
namespace Go.Proofs.YtokfbblhjpfjkaaGreat
open Go.Aw Go.RowKit
def zCG:List (Nat×List Nat):=[(0,[]),(1,[]),(2,[1]),(3,[1,2]),(4,[0,1,2,3]),(5,[0,1,2,3,4]),(6,[0,1,2,3,4,5]),(7,[0,1,2,3,4,5,6]),(8,[0,1,2,3,4,5,6]),(9,[0,1,2,3,4,5,6]),(10,[0,1,2,3,4,5,6,9]),(11,[0,1,2,3,4,5,6,9,10]),(12,[0,1,2,3,4,5,6,9,10,11]),(13,[0,1,2,3,4,5,6]),(14,[0,1,2,3,4,5,6,13]),(15,[0,1,2,3,4,5,6,13,14]),(16,[0,1,2,3,4,5,6,13,14,15]),(17,[0,1,2,3,4,5,6,7,8,9,10,11,12,13,14,15,16]),(18,[0,1,2,3,4,5,6,7,8,9,10,11,12,13,14,15,16,17]),(19,[0,1,2,3,4,5,6,7,8,9,10,11,12,13,14,15,16,17,18])]
def zEx:List (Nat×List Nat):=[(0,[100000,100001,100002,100003,101015,101021,101026,101039,101049,101061,101062,101063]),(1,[100000,100001,100002,100003,101015,101021,101026,101039,101049,101061,101062,101063]),(2,[]),(3,[]),(4,[3]),(5,[3,4]),(6,[3,4,5]),(7,[]),(8,[7]),(9,[7,8]),(10,[7,8,9]),(11,[2,3,4,5,6,7,8,9,10]),(12,[1,2,3,4,5,6,7,8,9,10,11]),(13,[0,1,2,3,4,5,6,7,8,9,10,11,12])]
def zEM:List (Nat×List Nat):=[(0,[]),(1,[]),(2,[1]),(3,[1,2]),(4,[1,2,3]),(5,[]),(6,[5]),(7,[5,6]),(8,[5,6,7]),(9,[5,6,7,8]),(10,[5,6,7,8,9]),(11,[0,1,2,3,4,5,6,7,8,9,10]),(12,[0,1,2,3,4,5,6,7,8,9,10,11])]
def zEE:List (Nat×List Nat):=[(0,[]),(1,[]),(2,[]),(3,[2]),(4,[2,3]),(5,[2,3,4]),(6,[]),(7,[0,1,2,3,4,5,6])]
def zEI:List (Nat×List Nat):=[(0,[]),(1,[]),(2,[]),(3,[2]),(4,[2,3]),(5,[2,3,4]),(6,[]),(7,[0,1,2,3,4,5,6])]
def zEj:List (Nat×List Nat):=[(0,[]),(1,[]),(2,[]),(3,[2]),(4,[2,3]),(5,[2,3,4]),(6,[]),(7,[0,1,2,3,4,5,6])]
attribute [local irreducible] WL AC WD WE MStep OkOp
theorem zHm{σ:Type}{ty:List Tm→Tm→WM σ Tm}{ctx:List Tm}{t u:Tm}{w:WS σ}(q:(ofW ty ctx t u w).1=true):(ofW ty ctx t u w).2.1=0:=by
 simp only[ofW,zyN,okW,wantW]at q⊢
 split at q
 ·cases q
 ·rename_i q0
  rw[if_neg q0]
  split at q
  ·cases q
  ·rename_i q1;rw[if_neg q1];exact of_decide_eq_true q
theorem zC6{σ:Type}{w:WS σ}{p:Prop}[Decidable p]{er:Int}(hg: ¬(w.1=0∧p)):(wantW (decide p) er w).1=false:=by
 unfold wantW
 split
 ·rfl
 ·rename_i q
  refine decide_eq_false fun q0=>hg ⟨q0,?_⟩
  exact Classical.byContradiction fun q4=>q ⟨q0,decide_eq_false q4⟩
section
variable {σ:Type} {N:σ→Tm→Tm×Int×σ} {nf:AV} {tA tB:σ→Nat→AB} {tC:σ→AB} {ok:σ→Prop} {cnt:σ→Nat} {env:List En} (hN:LN N nf tA tB tC ok cnt)
variable {ty:List Tm→Tm→WM σ Tm} {ctx:List Tm} {t:Tm} {s:σ} (hK:NK N) (kt:KT N nf tA tB tC ok cnt env ty t) (hc:checkT t=0) (hx: ∀ x,x∈ctx→C0 x) (hl:ctx.length≤40) (ho:ok s) (hn:cnt s+4*t.size≤4000000)
include hN hK kt hc hx hl ho hn
set_option maxHeartbeats 4000000 in
theorem zGi(hk:t.kind=8):
 MV Tryz.prog 2 184 [.ptr 3 0,sT ctx,aT t] (KS nf tA tB tC env (0,s)) (aT (zE2 N ty ctx t (0,s)).1) (KS nf tA tB tC env (zE2 N ty ctx t (0,s)).2):=by
 have k3:kidsR t.kind=3:=by rw[hk];decide
 have row0:=zCB hc (i:=0) (by omega)
 have row1:=zCB hc (i:=1) (by omega)
 have row2:=zCB hc (i:=2) (by omega)
 have z:=zC4 hc (by omega)
 have z0:=(zcH (zzT hc (i:=0) (by omega))).1
 have z1:=(zcH (zzT hc (i:=1) (by omega))).1
 have h1:=zCA hN (env:=env) (kt.mv ctx 0 (0,s) (by omega) fun _=>⟨hx,hl,ho,by show cnt s+_≤_;omega⟩)
 have s1:=step (Er.level kt.er ctx (kidT t 0)) (Co.level (kt.co ctx 0 (by omega))) (Po.level (kt.po ctx 0 (by omega) hx)) (0,s)
 rw[show zE2 N ty ctx t (0,s)=(let r1:=zz4 ty ctx (kidT t 0) (0,s);let r2:=normW N (kidT t 0) r1.2;zBh (decide (r2.1.kind=7)) 8 (zyN (ofW ty ctx (kidT t 1) (kidT r2.1 0)) fun ok=>if ok=true then
  zyN (ty ctx (kidT t 2)) fun b=>zyN (instW N (kidT r2.1 1) (kidT t 1)) fun x=>zyN (wantW (decide (b=x)) 8) fun _=>zzZ r2.1 else zzZ zT) r2.2)from rfl]
 generalize zz4 ty ctx (kidT t 0) (0,s)=r1 at h1 s1⊢
 obtain⟨a1,c1⟩:=s1
 obtain⟨o1,c1⟩:=c1 ho
 dsimp only at c1
 have h2:=zCs hN (env:=env) r1.2 (kidT t 0) (fun _=>⟨by omega,o1,by omega⟩)
 have s2:=step (Er.norm (N:=N) (kidT t 0)) (Co.norm hN (kidT t 0)) (Po.norm hK (kidT t 0)) r1.2
 dsimp only
 generalize normW N (kidT t 0) r1.2=r2 at h2 s2⊢
 obtain⟨a2,c2⟩:=s2
 obtain⟨o2,c2⟩:=c2 o1
 obtain⟨x1,e1,s1⟩:=r2
 dsimp only at a2 o2 c2 h2⊢
 have h3:=zBV hN (env:=env) (e1,s1) (decide (x1.kind=7)) 8 (fun _=>by decide)
 by_cases hg:e1=0∧x1.kind=7
 ·obtain⟨g0,g4⟩:=hg
  obtain⟨_,cf⟩:=a2 g0
  have kf:kidsR x1.kind=2:=by rw[g4];decide
  have f0:=zCB cf (i:=0) (by omega)
  have f1:=zCB cf (i:=1) (by omega)
  have zf0:=(zcH (zzT cf (i:=0) (by omega))).1
  have zf1:=(zcH (zzT cf (i:=1) (by omega))).1
  subst g0
  rw[decide_eq_true g4]at h3⊢
  rw[show wantW true 8 ((0:Int),s1)=(true,(0,s1))from rfl]at h3
  rw[show ∀ m:WM σ Tm,zBh true 8 m ((0:Int),s1)=m (0,s1)from fun _=>rfl]
  have sz:=kt.sz ctx 1 ((0:Int),s1) (by omega) (fun _=>hx)
  have h4:=zDg hN (env:=env) (u:=kidT x1 0) (by omega) (kt.mv ctx 1 ((0:Int),s1) (by omega) fun _=>⟨hx,hl,o2,by show cnt s1+_≤_;omega⟩)
  have s4:=step (Er.of kt.er ctx (kidT t 1) (kidT x1 0)) (Co.of (kt.co ctx 1 (by omega))) (Po.of (typ:=kidT x1 0) (kt.po ctx 1 (by omega) hx)) ((0:Int),s1)
  have hb:=zHm (ty:=ty) (ctx:=ctx) (t:=kidT t 1) (u:=kidT x1 0) (w:=((0:Int),s1))
  rw[show zyN (ofW ty ctx (kidT t 1) (kidT x1 0)) (fun ok=>if ok=true then zyN (ty ctx (kidT t 2)) fun b=>zyN (instW N (kidT x1 1) (kidT t 1)) fun x=>zyN (wantW (decide (b=x)) 8) fun _=>zzZ x1 else zzZ zT) ((0:Int),s1)=
   (let r3:=ofW ty ctx (kidT t 1) (kidT x1 0) ((0:Int),s1);(if r3.1=true then zyN (ty ctx (kidT t 2)) fun b=>zyN (instW N (kidT x1 1) (kidT t 1)) fun x=>zyN (wantW (decide (b=x)) 8) fun _=>zzZ x1 else zzZ zT) r3.2)from rfl]
  generalize ofW ty ctx (kidT t 1) (kidT x1 0) ((0:Int),s1)=r3 at h4 s4 hb⊢
  obtain⟨a4,c4⟩:=s4
  obtain⟨o4,c4⟩:=c4 o2
  obtain⟨b3,e3,s3⟩:=r3
  dsimp only at a4 c4 o4 hb h4⊢
  cases b3
  ·rw[show(if false=true then zyN (ty ctx (kidT t 2)) fun b=>zyN (instW N (kidT x1 1) (kidT t 1)) fun x=>zyN (wantW (decide (b=x)) 8) fun _=>zzZ x1 else zzZ zT) (e3,s3)=(zT,(e3,s3))from rfl]
   clear a1 a2 a4 c1 c2 c4 hx hn hb
   refine zzj hN Tryz.func184 rfl rfl rfl fun w0 B0 B1 B3=>?_
   repeat'(first|exact absurd g4 ‹_›|refine WL_m rfl (zaq hty rfl rfl rfl (by decide) row0 rfl) ?_|refine zbc rfl (zaq hty rfl rfl rfl (by decide) row1 rfl) ?_|refine zbc rfl (zaq hty rfl rfl rfl (by decide) f0 rfl) ?_|refine zD (id:=3) zCG rfl (by kernel_rfl) ?_|refine WL_m rfl (zyD hN 0 1015 h1 rfl rfl rfl rfl rfl rfl rfl rfl) ?_|refine WL_m rfl (zyD hN 1013 1021 h2 rfl rfl rfl rfl rfl rfl rfl rfl) ?_|refine zbc rfl (zyD hN 1019 1026 h3 rfl rfl rfl rfl rfl rfl rfl rfl) ?_|refine zbc rfl (zyD hN 1024 1039 h4 rfl rfl rfl rfl rfl rfl rfl rfl) ?_|refine zu (.inl ⟨rfl,zI hty rfl rfl⟩) ?_|refine zaG rfl rfl ?_|refine zS ⟨by kernel_rfl,?_⟩|refine WL_p hty rfl rfl ?_|refine zh ?_|refine zi ?_|refine za ?_|refine zd rfl ?_|refine zg ?_|refine zaC rfl rfl rfl rfl (fun _=>?_) (fun _=>?_))
   exact zAU 1037 rfl rfl rfl rfl rfl rfl rfl (zCj _)
  ·have g3:=hb rfl
   subst g3
   rw[show(if true=true then zyN (ty ctx (kidT t 2)) fun b=>zyN (instW N (kidT x1 1) (kidT t 1)) fun x=>zyN (wantW (decide (b=x)) 8) fun _=>zzZ x1 else zzZ zT) ((0:Int),s3)=
    (let r5:=ty ctx (kidT t 2) (0,s3);let r6:=instW N (kidT x1 1) (kidT t 1) r5.2;(x1,(wantW (decide (r5.1=r6.1)) 8 r6.2).2))from rfl]
   have h5:=kt.mv ctx 2 ((0:Int),s3) (by omega) fun _=>⟨hx,hl,o4,by show cnt s3+_≤_;omega⟩
   have s5:=step (kt.er ctx (kidT t 2)) (kt.co ctx 2 (by omega)) (kt.po ctx 2 (by omega) hx) ((0:Int),s3)
   have sz5:=kt.sz ctx 2 ((0:Int),s3) (by omega) (fun _=>hx)
   generalize ty ctx (kidT t 2) ((0:Int),s3)=r5 at h5 s5 sz5⊢
   obtain⟨a5,c5⟩:=s5
   obtain⟨o5,c5⟩:=c5 o4
   dsimp only at c5⊢
   have h6:=zDx hN (env:=env) r5.2 (kidT x1 1) (kidT t 1) (fun _=>⟨by omega,by omega,o5,by omega⟩)
   have sz6:=zFh hK (kidT x1 1) (kidT t 1) r5.2
   generalize instW N (kidT x1 1) (kidT t 1) r5.2=r6 at h6 sz6⊢
   have heq:=zd7 r5.1 r6.1 (by omega)
   have h7:=zBV hN (env:=env) r6.2 (decide (r5.1=r6.1)) 8 (fun _=>by decide)
   generalize wantW (decide (r5.1=r6.1)) 8 r6.2=r7 at h7⊢
   generalize decide (r5.1=r6.1)=b at heq h7
   clear a1 a2 a4 a5 c1 c2 c4 c5 hx hn hb
   refine zzj hN Tryz.func184 rfl rfl rfl fun w0 B0 B1 B3=>?_
   repeat'(first|exact absurd g4 ‹_›|refine WL_m rfl (zaq hty rfl rfl rfl (by decide) row0 rfl) ?_|refine WL_m rfl (zaq hty rfl rfl rfl (by decide) row2 rfl) ?_|refine zbc rfl (zaq hty rfl rfl rfl (by decide) row1 rfl) ?_|refine zbc rfl (zaq hty rfl rfl rfl (by decide) f0 rfl) ?_|refine zbc rfl (zaq hty rfl rfl rfl (by decide) f1 rfl) ?_|refine zD (id:=3) zCG rfl (by kernel_rfl) ?_|refine zD (id:=6) zEx rfl (by kernel_rfl) ?_|refine WL_m rfl (zyD hN 0 1015 h1 rfl rfl rfl rfl rfl rfl rfl rfl) ?_|refine WL_m rfl (zyD hN 1013 1021 h2 rfl rfl rfl rfl rfl rfl rfl rfl) ?_|refine zbc rfl (zyD hN 1019 1026 h3 rfl rfl rfl rfl rfl rfl rfl rfl) ?_|refine zbc rfl (zyD hN 1024 1039 h4 rfl rfl rfl rfl rfl rfl rfl rfl) ?_|refine WL_m rfl (zyD hN 1037 1049 h5 rfl rfl rfl rfl rfl rfl rfl rfl) ?_|refine zbc rfl (zyD hN 1047 1061 h6 rfl rfl rfl rfl rfl rfl rfl rfl) ?_|refine zad 0 rfl heq rfl rfl rfl ?_|refine zbc rfl (zyD hN 1059 1063 h7 rfl rfl rfl rfl rfl rfl rfl rfl) ?_|refine zu (.inl ⟨rfl,zI hty rfl rfl⟩) ?_|refine zaG rfl rfl ?_|refine zS ⟨by kernel_rfl,?_⟩|refine WL_p hty rfl rfl ?_|refine zh ?_|refine zi ?_|refine za ?_|refine zxg ?_|refine zbZ rfl ?_|refine zg ?_|refine zaC rfl rfl rfl rfl (fun _=>?_) (fun _=>?_))
   exact zAU 1061 rfl rfl rfl rfl rfl rfl rfl (.refl _)
 ·have hw:=zC6 (w:=(e1,s1)) (p:=x1.kind=7) (er:=8) hg
  rw[show ∀ m:WM σ Tm,zBh (decide (x1.kind=7)) 8 m (e1,s1)=(zT,(wantW (decide (x1.kind=7)) 8 (e1,s1)).2)from fun m=>by unfold zBh zyN;rw[hw];rfl]
  rw[hw]at h3
  generalize (wantW (decide (x1.kind=7)) 8 (e1,s1)).2=w2 at h3⊢
  clear a1 a2 c1 c2 hx hn hg hw
  by_cases g4:x1.kind=7
  ·rw[decide_eq_true g4]at h3
   refine zzj hN Tryz.func184 rfl rfl rfl fun w0 B0 B1 B3=>?_
   repeat'(first|exact absurd g4 ‹_›|refine WL_m rfl (zaq hty rfl rfl rfl (by decide) row0 rfl) ?_|refine zD (id:=3) zCG rfl (by kernel_rfl) ?_|refine WL_m rfl (zyD hN 0 1015 h1 rfl rfl rfl rfl rfl rfl rfl rfl) ?_|refine WL_m rfl (zyD hN 1013 1021 h2 rfl rfl rfl rfl rfl rfl rfl rfl) ?_|refine zbc rfl (zyD hN 1019 1026 h3 rfl rfl rfl rfl rfl rfl rfl rfl) ?_|refine zu (.inl ⟨rfl,zI hty rfl rfl⟩) ?_|refine zav rfl rfl rfl ?_|refine zS ⟨by kernel_rfl,?_⟩|refine WL_p hty rfl rfl ?_|refine zh ?_|refine zi ?_|refine za ?_|refine zd rfl ?_|refine zg ?_|refine zaC rfl rfl rfl rfl (fun _=>?_) (fun _=>?_))
   exact zAU 1024 rfl rfl rfl rfl rfl rfl rfl (zCj _)
  ·rw[decide_eq_false g4]at h3
   refine zzj hN Tryz.func184 rfl rfl rfl fun w0 B0 B1 B3=>?_
   repeat'(first|exact absurd (by assumption) g4|refine WL_m rfl (zaq hty rfl rfl rfl (by decide) row0 rfl) ?_|refine zD (id:=3) zCG rfl (by kernel_rfl) ?_|refine WL_m rfl (zyD hN 0 1015 h1 rfl rfl rfl rfl rfl rfl rfl rfl) ?_|refine WL_m rfl (zyD hN 1013 1021 h2 rfl rfl rfl rfl rfl rfl rfl rfl) ?_|refine zbc rfl (zyD hN 1019 1026 h3 rfl rfl rfl rfl rfl rfl rfl rfl) ?_|refine zu (.inl ⟨rfl,zI hty rfl rfl⟩) ?_|refine zav rfl rfl rfl ?_|refine zS ⟨by kernel_rfl,?_⟩|refine WL_p hty rfl rfl ?_|refine zh ?_|refine zi ?_|refine za ?_|refine zd rfl ?_|refine zg ?_|refine zaC rfl rfl rfl rfl (fun _=>?_) (fun _=>?_))
   exact zAU 1024 rfl rfl rfl rfl rfl rfl rfl (zCj _)
omit hN hK kt hx hl ho hn in
theorem zDP(hk:1≤kidsR t.kind):1+(kidT t 0).size≤t.size:=by
 have hl:=zCE hc
 cases t with
 |mk k n l=>
  simp only[Tm.kids,Tm.kind]at hl hk
  match l,hl with
  |a::l,_=>simp only[kidT,Tm.kids,List.getD_cons_zero,Tm.size,sizes];omega
  |[],q=>simp at q;omega
set_option maxHeartbeats 4000000 in
theorem zGO(hk:t.kind=9):
 MV Tryz.prog 2 185 [.ptr 3 0,sT ctx,aT t] (KS nf tA tB tC env (0,s)) (aT (zF9 ty ctx t (0,s)).1) (KS nf tA tB tC env (zF9 ty ctx t (0,s)).2):=by
 have _:=hK
 have k1:kidsR t.kind=1:=by rw[hk];decide
 have row0:=zCB hc (i:=0) (by omega)
 have z:=zDP hc (by omega)
 have h1:=zE7 hN (env:=env) (kt.mv ctx 0 (0,s) (by omega) fun _=>⟨hx,hl,ho,by show cnt s+_≤_;omega⟩)
 have s1:=step (kt.er ctx (kidT t 0)) (kt.co ctx 0 (by omega)) (kt.po ctx 0 (by omega) hx) (0,s)
 rw[show zF9 ty ctx t (0,s)=(let r1:=ty ctx (kidT t 0) (0,s);zBh (decide (r1.1.kind=7)) 8 (zzZ (kidT r1.1 0)) r1.2)from rfl]
 generalize ty ctx (kidT t 0) (0,s)=r1 at h1 s1⊢
 obtain⟨a1,c1⟩:=s1
 obtain⟨x1,e1,s1⟩:=r1
 dsimp only at a1 h1⊢
 by_cases hg:e1=0∧x1.kind=7
 ·obtain⟨g0,g4⟩:=hg
  obtain⟨_,cf⟩:=a1 g0
  have kf:kidsR x1.kind=2:=by rw[g4];decide
  have f0:=zCB cf (i:=0) (by omega)
  subst g0
  rw[decide_eq_true g4]at h1⊢
  rw[show wantW true 8 ((0:Int),s1)=(true,(0,s1))from rfl]at h1
  rw[show ∀ m:WM σ Tm,zBh true 8 m ((0:Int),s1)=m (0,s1)from fun _=>rfl]
  clear a1 c1 hx hn
  refine zzj hN Tryz.func185 rfl rfl rfl fun w0 B0 B1 B3=>?_
  repeat'(first|refine WL_m rfl (zaq hty rfl rfl rfl (by decide) row0 rfl) ?_|refine WL_m rfl (zaq hty rfl rfl rfl (by decide) f0 rfl) ?_|refine WL_m rfl (zyD hN 0 1016 h1 rfl rfl rfl rfl rfl rfl rfl rfl) ?_|refine WL_p hty rfl rfl ?_|refine zh ?_|refine zi ?_|refine za ?_|refine zxg ?_|refine zbZ rfl ?_|refine zg ?_)
  exact zAU 1014 rfl rfl rfl rfl rfl rfl rfl (.refl _)
 ·have hw:=zC6 (w:=(e1,s1)) (p:=x1.kind=7) (er:=8) hg
  rw[show ∀ m:WM σ Tm,zBh (decide (x1.kind=7)) 8 m (e1,s1)=(zT,(wantW (decide (x1.kind=7)) 8 (e1,s1)).2)from fun m=>by unfold zBh zyN;rw[hw];rfl]
  rw[hw]at h1
  generalize (wantW (decide (x1.kind=7)) 8 (e1,s1)).2=w2 at h1⊢
  clear a1 c1 hx hn hg hw
  refine zzj hN Tryz.func185 rfl rfl rfl fun w0 B0 B1 B3=>?_
  repeat'(first|refine WL_m rfl (zaq hty rfl rfl rfl (by decide) row0 rfl) ?_|refine WL_m rfl (zyD hN 0 1016 h1 rfl rfl rfl rfl rfl rfl rfl rfl) ?_|refine WL_p hty rfl rfl ?_|refine zh ?_|refine zi ?_|refine za ?_|refine zd rfl ?_|refine zg ?_)
  exact zAU 1014 rfl rfl rfl rfl rfl rfl rfl (zCj _)
set_option maxHeartbeats 4000000 in
theorem zGQ(hk:t.kind=10):
 MV Tryz.prog 2 186 [.ptr 3 0,sT ctx,aT t] (KS nf tA tB tC env (0,s)) (aT (zGa N ty ctx t (0,s)).1) (KS nf tA tB tC env (zGa N ty ctx t (0,s)).2):=by
 have _:=hK
 have k1:kidsR t.kind=1:=by rw[hk];decide
 have row0:=zCB hc (i:=0) (by omega)
 have z:=zDP hc (by omega)
 have z0:=(zcH (zzT hc (i:=0) (by omega))).1
 have h1:=zE7 hN (env:=env) (kt.mv ctx 0 (0,s) (by omega) fun _=>⟨hx,hl,ho,by show cnt s+_≤_;omega⟩)
 have s1:=step (kt.er ctx (kidT t 0)) (kt.co ctx 0 (by omega)) (kt.po ctx 0 (by omega) hx) (0,s)
 rw[show zGa N ty ctx t (0,s)=(let r1:=ty ctx (kidT t 0) (0,s);zBh (decide (r1.1.kind=7)) 8 (instW N (kidT r1.1 1) (.mk 9 0 [kidT t 0])) r1.2)from rfl]
 generalize ty ctx (kidT t 0) (0,s)=r1 at h1 s1⊢
 obtain⟨a1,c1⟩:=s1
 obtain⟨o1,c1⟩:=c1 ho
 obtain⟨x1,e1,s1⟩:=r1
 dsimp only at a1 o1 c1 h1⊢
 by_cases hg:e1=0∧x1.kind=7
 ·obtain⟨g0,g4⟩:=hg
  obtain⟨_,cf⟩:=a1 g0
  have kf:kidsR x1.kind=2:=by rw[g4];decide
  have f1:=zCB cf (i:=1) (by omega)
  have zf1:=(zcH (zzT cf (i:=1) (by omega))).1
  subst g0
  rw[decide_eq_true g4]at h1⊢
  rw[show wantW true 8 ((0:Int),s1)=(true,(0,s1))from rfl]at h1
  rw[show ∀ m:WM σ Tm,zBh true 8 m ((0:Int),s1)=m (0,s1)from fun _=>rfl]
  have hnd:=(zdZ 9 [kidT t 0]).args (xs:=[.int .i64 9,.lst 3 [cT (kidT t 0)] true]) (.cons (.refl _) (.cons (by rw[←rs1];exact .full _ _ _) .nil))
  have h2:=zDx hN (env:=env) ((0:Int),s1) (kidT x1 1) (.mk 9 0 [kidT t 0]) (fun _=>⟨by omega,by simp only[Tm.size,sizes];omega,o1,by show cnt s1≤_;omega⟩)
  generalize instW N (kidT x1 1) (.mk 9 0 [kidT t 0]) ((0:Int),s1)=r2 at h2⊢
  clear a1 c1 hx hn
  refine zzj hN Tryz.func186 rfl rfl rfl fun w0 B0 B1 B3=>?_
  repeat'(first|refine WL_m rfl (zaq hty rfl rfl rfl (by decide) row0 rfl) ?_|refine zbc rfl (zaq hty rfl rfl rfl (by decide) row0 rfl) ?_|refine zbc rfl (zaq hty rfl rfl rfl (by decide) f1 rfl) ?_|refine zD (id:=4) zEM rfl (by kernel_rfl) ?_|refine zad 0 rfl hnd rfl rfl rfl ?_|refine WL_m rfl (zyD hN 0 1016 h1 rfl rfl rfl rfl rfl rfl rfl rfl) ?_|refine zbc rfl (zyD hN 1014 1033 h2 rfl rfl rfl rfl rfl rfl rfl rfl) ?_|refine zu (.inl ⟨rfl,zI hty rfl rfl⟩) ?_|refine zS ⟨by kernel_rfl,?_⟩|refine WL_p hty rfl rfl ?_|refine zh ?_|refine zi ?_|refine za ?_|refine zxg ?_|refine zbZ rfl ?_|refine zg ?_)
  exact zAU 1031 rfl rfl rfl rfl rfl rfl rfl (.refl _)
 ·have hw:=zC6 (w:=(e1,s1)) (p:=x1.kind=7) (er:=8) hg
  rw[show ∀ m:WM σ Tm,zBh (decide (x1.kind=7)) 8 m (e1,s1)=(zT,(wantW (decide (x1.kind=7)) 8 (e1,s1)).2)from fun m=>by unfold zBh zyN;rw[hw];rfl]
  rw[hw]at h1
  generalize (wantW (decide (x1.kind=7)) 8 (e1,s1)).2=w2 at h1⊢
  clear a1 c1 hx hn hg hw
  refine zzj hN Tryz.func186 rfl rfl rfl fun w0 B0 B1 B3=>?_
  repeat'(first|refine WL_m rfl (zaq hty rfl rfl rfl (by decide) row0 rfl) ?_|refine WL_m rfl (zyD hN 0 1016 h1 rfl rfl rfl rfl rfl rfl rfl rfl) ?_|refine WL_p hty rfl rfl ?_|refine zh ?_|refine zi ?_|refine za ?_|refine zd rfl ?_|refine zg ?_)
  exact zAU 1014 rfl rfl rfl rfl rfl rfl rfl (zCj _)
set_option maxHeartbeats 4000000 in
theorem zG0(hk:t.kind=11):
 MV Tryz.prog 2 187 [.ptr 3 0,sT ctx,aT t] (KS nf tA tB tC env (0,s)) (aT (idW N ty ctx t (0,s)).1) (KS nf tA tB tC env (idW N ty ctx t (0,s)).2):=by
 have k3:kidsR t.kind=3:=by rw[hk];decide
 have row0:=zCB hc (i:=0) (by omega)
 have row1:=zCB hc (i:=1) (by omega)
 have row2:=zCB hc (i:=2) (by omega)
 have z:=zC4 hc (by omega)
 have z0:=(zcH (zzT hc (i:=0) (by omega))).1
 have h1:=zCA hN (env:=env) (kt.mv ctx 0 (0,s) (by omega) fun _=>⟨hx,hl,ho,by show cnt s+_≤_;omega⟩)
 have s1:=step (Er.level kt.er ctx (kidT t 0)) (Co.level (kt.co ctx 0 (by omega))) (Po.level (kt.po ctx 0 (by omega) hx)) (0,s)
 rw[show idW N ty ctx t (0,s)=(let r1:=zz4 ty ctx (kidT t 0) (0,s);let r2:=normW N (kidT t 0) r1.2;let r3:=ofW ty ctx (kidT t 1) r2.1 r2.2;let r4:=ofW ty ctx (kidT t 2) r2.1 r3.2;(.mk 2 r1.1 [],r4.2))from rfl]
 generalize zz4 ty ctx (kidT t 0) (0,s)=r1 at h1 s1⊢
 obtain⟨a1,c1⟩:=s1
 obtain⟨o1,c1⟩:=c1 ho
 dsimp only at c1
 have h2:=zCs hN (env:=env) r1.2 (kidT t 0) (fun _=>⟨by omega,o1,by omega⟩)
 have s2:=step (Er.norm (N:=N) (kidT t 0)) (Co.norm hN (kidT t 0)) (Po.norm hK (kidT t 0)) r1.2
 dsimp only
 generalize normW N (kidT t 0) r1.2=r2 at h2 s2⊢
 obtain⟨a2,c2⟩:=s2
 obtain⟨o2,c2⟩:=c2 o1
 have sz3:=kt.sz ctx 1 r2.2 (by omega) (fun _=>hx)
 have h3:=zDg hN (env:=env) (u:=r2.1) (by omega) (kt.mv ctx 1 r2.2 (by omega) fun _=>⟨hx,hl,o2,by omega⟩)
 have s3:=step (Er.of kt.er ctx (kidT t 1) r2.1) (Co.of (kt.co ctx 1 (by omega))) (Po.of (typ:=r2.1) (kt.po ctx 1 (by omega) hx)) r2.2
 generalize ofW ty ctx (kidT t 1) r2.1 r2.2=r3 at h3 s3⊢
 obtain⟨a3,c3⟩:=s3
 obtain⟨o3,c3⟩:=c3 o2
 have sz4:=kt.sz ctx 2 r3.2 (by omega) (fun _=>hx)
 have h4:=zDg hN (env:=env) (u:=r2.1) (by omega) (kt.mv ctx 2 r3.2 (by omega) fun _=>⟨hx,hl,o3,by omega⟩)
 generalize ofW ty ctx (kidT t 2) r2.1 r3.2=r4 at h4⊢
 have hu:=zFe r1.1
 clear a1 a2 a3 c1 c2 c3 hx hn
 refine zzj hN Tryz.func187 rfl rfl rfl fun w0 B0 B1 B3=>?_
 repeat'(first|refine WL_m rfl (zaq hty rfl rfl rfl (by decide) row0 rfl) ?_|refine zbc rfl (zaq hty rfl rfl rfl (by decide) row1 rfl) ?_|refine zbc rfl (zaq hty rfl rfl rfl (by decide) row2 rfl) ?_|refine zD (id:=3) zEE rfl (by kernel_rfl) ?_|refine zD (id:=4) zEI rfl (by kernel_rfl) ?_|refine WL_m rfl (zyD hN 0 1015 h1 rfl rfl rfl rfl rfl rfl rfl rfl) ?_|refine WL_m rfl (zyD hN 1013 1021 h2 rfl rfl rfl rfl rfl rfl rfl rfl) ?_|refine zbc rfl (zyD hN 1019 1029 h3 rfl rfl rfl rfl rfl rfl rfl rfl) ?_|refine zbc rfl (zyD hN 1027 1037 h4 rfl rfl rfl rfl rfl rfl rfl rfl) ?_|refine zv 0 rfl hu rfl rfl rfl ?_|refine zu (.inl ⟨rfl,zI hty rfl rfl⟩) ?_|refine zS ⟨by kernel_rfl,?_⟩|refine WL_p hty rfl rfl ?_|refine zh ?_|refine zi ?_|refine za ?_|refine zg ?_)
 exact zAU 1035 rfl rfl rfl rfl rfl rfl rfl (.refl _)
set_option maxHeartbeats 4000000 in
theorem zF8(hk:t.kind=12):
 MV Tryz.prog 2 188 [.ptr 3 0,sT ctx,aT t] (KS nf tA tB tC env (0,s)) (aT (zDr N ty ctx t (0,s)).1) (KS nf tA tB tC env (zDr N ty ctx t (0,s)).2):=by
 have k2:kidsR t.kind=2:=by rw[hk];decide
 have row0:=zCB hc (i:=0) (by omega)
 have row1:=zCB hc (i:=1) (by omega)
 have z:=zCD hc (by omega)
 have z0:=(zcH (zzT hc (i:=0) (by omega))).1
 have z1:=(zcH (zzT hc (i:=1) (by omega))).1
 have h1:=zCA hN (env:=env) (kt.mv ctx 0 (0,s) (by omega) fun _=>⟨hx,hl,ho,by show cnt s+_≤_;omega⟩)
 have s1:=step (Er.level kt.er ctx (kidT t 0)) (Co.level (kt.co ctx 0 (by omega))) (Po.level (kt.po ctx 0 (by omega) hx)) (0,s)
 rw[show zDr N ty ctx t (0,s)=(let r1:=zz4 ty ctx (kidT t 0) (0,s);let r2:=normW N (kidT t 0) r1.2;let r3:=ofW ty ctx (kidT t 1) r2.1 r2.2;let r4:=normW N (kidT t 1) r3.2;zCm (.mk 11 0 [r2.1,r4.1,r4.1]) r4.2)from rfl]
 generalize zz4 ty ctx (kidT t 0) (0,s)=r1 at h1 s1⊢
 obtain⟨a1,c1⟩:=s1
 obtain⟨o1,c1⟩:=c1 ho
 dsimp only at c1
 have h2:=zCs hN (env:=env) r1.2 (kidT t 0) (fun _=>⟨by omega,o1,by omega⟩)
 have s2:=step (Er.norm (N:=N) (kidT t 0)) (Co.norm hN (kidT t 0)) (Po.norm hK (kidT t 0)) r1.2
 have sz2:=zCJ hK (kidT t 0) r1.2
 dsimp only
 generalize normW N (kidT t 0) r1.2=r2 at h2 s2 sz2⊢
 obtain⟨a2,c2⟩:=s2
 obtain⟨o2,c2⟩:=c2 o1
 have sz3:=kt.sz ctx 1 r2.2 (by omega) (fun _=>hx)
 have h3:=zDg hN (env:=env) (u:=r2.1) (by omega) (kt.mv ctx 1 r2.2 (by omega) fun _=>⟨hx,hl,o2,by omega⟩)
 have s3:=step (Er.of kt.er ctx (kidT t 1) r2.1) (Co.of (kt.co ctx 1 (by omega))) (Po.of (typ:=r2.1) (kt.po ctx 1 (by omega) hx)) r2.2
 generalize ofW ty ctx (kidT t 1) r2.1 r2.2=r3 at h3 s3⊢
 obtain⟨a3,c3⟩:=s3
 obtain⟨o3,c3⟩:=c3 o2
 have h4:=zCs hN (env:=env) r3.2 (kidT t 1) (fun _=>⟨by omega,o3,by omega⟩)
 have sz4:=zCJ hK (kidT t 1) r3.2
 generalize normW N (kidT t 1) r3.2=r4 at h4 sz4⊢
 have hnd:=(zdZ 11 [r2.1,r4.1,r4.1]).args (xs:=[.int .i64 11,.lst 3 [cT r2.1,cT r4.1,cT r4.1] true]) (.cons (.refl _) (.cons (by rw[←rs3];exact .full _ _ _) .nil))
 have h5:=zD2 hN (env:=env) r4.2 (.mk 11 0 [r2.1,r4.1,r4.1]) (fun _=>by simp only[Tm.size,sizes];omega)
 generalize zCm (.mk 11 0 [r2.1,r4.1,r4.1]) r4.2=r5 at h5⊢
 clear a1 a2 a3 c1 c2 c3 hx hn
 refine zzj hN Tryz.func188 rfl rfl rfl fun w0 B0 B1 B3=>?_
 repeat'(first|refine WL_m rfl (zaq hty rfl rfl rfl (by decide) row0 rfl) ?_|refine WL_m rfl (zaq hty rfl rfl rfl (by decide) row1 rfl) ?_|refine zbc rfl (zaq hty rfl rfl rfl (by decide) row1 rfl) ?_|refine zD (id:=3) zEj rfl (by kernel_rfl) ?_|refine WL_m rfl (zyD hN 0 1015 h1 rfl rfl rfl rfl rfl rfl rfl rfl) ?_|refine WL_m rfl (zyD hN 1013 1021 h2 rfl rfl rfl rfl rfl rfl rfl rfl) ?_|refine zbc rfl (zyD hN 1019 1029 h3 rfl rfl rfl rfl rfl rfl rfl rfl) ?_|refine WL_m rfl (zyD hN 1027 1035 h4 rfl rfl rfl rfl rfl rfl rfl rfl) ?_|refine zv 0 rfl hnd rfl rfl rfl ?_|refine WL_m rfl (zyD hN 1033 1042 h5 rfl rfl rfl rfl rfl rfl rfl rfl) ?_|refine zu (.inl ⟨rfl,zI hty rfl rfl⟩) ?_|refine zS ⟨by kernel_rfl,?_⟩|refine WL_p hty rfl rfl ?_|refine zh ?_|refine zi ?_|refine za ?_|refine zg ?_)
 exact zAU 1040 rfl rfl rfl rfl rfl rfl rfl (.refl _)
end
end Go.Proofs.YtokfbblhjpfjkaaGreat
