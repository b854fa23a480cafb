/- The types of what is done with a proof. -/
import Derived.Test.YtokfbblhjpfjkaaGreatLWalkD
set_option linter.unusedSimpArgs false
set_option linter.unusedVariables false
namespace Go.Proofs.YtokfbblhjpfjkaaGreat
open Go.Aw Go.RowKit
def zFf:List (Nat×List Nat):=[(0,[]),(1,[]),(2,[]),(3,[]),(4,[3]),(5,[2,3,4]),(6,[2,3,4,5]),(7,[0,1,2,3,4,5,6]),(8,[0,1,2,3,4,5,6,7]),(9,[])]
def zC8:List (Nat×List Nat):=[(0,[]),(1,[0]),(2,[0,1]),(3,[0,1,2]),(4,[0,1,2,3]),(5,[0,1,2,3,4]),(6,[0,1,2,3,4,5]),(7,[0,1,2,3,4,5,6]),(8,[0,1,2,3]),(9,[0,1,2,3,4,5,6,7,8]),(10,[0,1,2,3,4,5,6,7,8,9]),(11,[0,1,2,3,4,5,6,7,8,9,10])]
def zCS:List (Nat×List Nat):=[(0,[]),(1,[]),(2,[0,1]),(3,[100000,100001,100002,100003,101021,101026,101035,101038,101045,101057,101058,101068,101074,101078,101079,101081,101083,101085,101087,101088,101092,101093,101112,101113]),(4,[100000,100001,100002,100003,101021,101026,101035,101038,101045,101057,101058,101068,101074,101078,101079,101081,101083,101085,101087,101088,101092,101093,101112,101113]),(5,[0,1,2,3,4]),(6,[100000,100001,100002,100003,101021,101026,101035,101038,101045,101057,101058,101068,101074,101078,101079,101081,101083,101085,101087,101088,101092,101093,101112,101113]),(7,[100000,100001,100002,100003,101021,101026,101035,101038,101045,101057,101058,101068,101074,101078,101079,101081,101083,101085,101087,101088,101092,101093,101112,101113]),(8,[0,1,2,3,4,5,6,7]),(9,[0,1,2,3,4,5,6,7,8])]
def zD9:List (Nat×List Nat):=[(0,[]),(1,[]),(2,[]),(3,[]),(4,[3]),(5,[]),(6,[3,4]),(7,[3,4,5,6]),(8,[3,4,5,6,7]),(9,[3,4,5,6,7,8]),(10,[2,3,4,5,6,7,8,9]),(11,[1,2,3,4,5,6,7,8,9,10]),(12,[1,2,3,4,5,6,7,8,9,10,11]),(13,[0,1,2,3,4,5,6,7,8,9,10,11,12]),(14,[100000,100001,100002,100003,101021,101026,101035,101038,101045,101057,101058,101068,101074,101078,101079,101081,101083,101085,101087,101088,101092,101093,101112,101113]),(15,[0,1,2,3,4,5,6,7,8,9,10,11,12,13,14])]
def zEc:List (Nat×List Nat):=[(0,[]),(1,[]),(2,[1]),(3,[1,2]),(4,[1,2,3]),(5,[]),(6,[5]),(7,[5,6]),(8,[5,6,7]),(9,[]),(10,[9]),(11,[9,10]),(12,[9,10,11]),(13,[]),(14,[13]),(15,[13,14]),(16,[13,14,15]),(17,[5,6,7,8,9,10,11,12,13,14,15,16]),(18,[1,2,3,4,5,6,7,8,9,10,11,12,13,14,15,16,17]),(19,[0,1,2,3,4,5,6,7,8,9,10,11,12,13,14,15,16,17,18]),(20,[0,1,2,3,4,5,6,7,8,9,10,11,12,13,14,15,16,17,18,19])]
attribute [local irreducible] WL AC WD WE MStep OkOp
theorem zGg{f a:Tm}{l:List Tm}{i:Nat}(h:l[i]? =some a):appsT f (l.take (i+1))=.mk 6 0 [appsT f (l.take i),a]:=by
 rw[List.take_add_one,h,Option.toList_some];simp[appsT]
theorem zEo(f:Tm)(l:List Tm)(hl:l.length≤1048576):FC Tryz.prog 224 [aT f,sT l] (aT (appsT f l)):=by
 have hr:=zeb l
 refine zo hty Tryz.func224 rfl rfl rfl fun w0=>?_
 repeat'(first|refine WL_p hty rfl rfl ?_|refine zh ?_|refine zi ?_|refine za ?_|refine zf ?_)
 refine zW l.length (fun _=>True) (fun i=>⟨envOf [(2,.ptr 2 0),(4,.ptr 4 0),(7,sT l),(8,.int .i64 ((rsT l).length:Nat)),(9,.int .i64 (i:Nat))],bkOf [(2,.box (cT (appsT f (l.take i)))),(4,.box [.int .i64 0,.int .i64 0,.lst 3 [] true])]⟩)
  (zfY ⟨zz rfl rfl,zz rfl rfl,zz rfl rfl,zz rfl rfl,zz rfl rfl,trivial⟩ ⟨zw rfl rfl,zw rfl rfl,trivial⟩) trivial ?_
 intro i hi _
 repeat'(first|refine zi ?_|refine za ?_)
 refine zj rfl rfl rfl rfl (fun hc=>?_) (fun hc=>?_)
 ·have hlt:i <l.length:=by omega
  obtain⟨a,ha,_⟩:=zA hlt
  have ra:=zac ha
  have hnd:=(zdZ 6 [appsT f (l.take i),a]).args (xs:=[.int .i64 6,.lst 3 [cT (appsT f (l.take i)),cT a] true]) (.cons (.refl _) (.cons (by rw[←rs2];exact .full _ _ _) .nil))
  rw[←zGg ha]at hnd
  repeat'(first|refine zv 0 rfl hnd rfl rfl rfl ?_|refine WL_p hty rfl rfl ?_|refine zh ?_|refine zi ?_|refine za ?_|refine zf ?_|refine zxg ?_|refine zd rfl ?_|refine WL_m rfl (zm hty rfl rfl rfl (by assumption) rfl) ?_)
  refine⟨hlt,trivial,(zfY ⟨zz rfl rfl,zz rfl rfl,zz rfl rfl,zz rfl rfl,⟨_,rfl,zO ?_ rfl⟩,trivial⟩ ⟨zw rfl rfl,zw rfl rfl,trivial⟩)⟩
  exact congrArg (AV.int .i64) ((zy (by omega) (by omega)).trans (by omega))
 ·obtain rfl:i=l.length:=by omega
  rw[List.take_length]
  repeat'(first|refine WL_p hty rfl rfl ?_|refine zh ?_|refine zi ?_|refine za ?_|refine zbZ rfl ?_|refine zl ?_|refine zg ?_)
  exact zH rfl rfl (.refl _)
def zDT(c:Tm):Nat→Tm
 |0=>c
 |i+1=>kidT (zDT c i) 1
def zEl(a one two:Tm):Nat→Tm
 |0=>a
 |1=>one
 |_=>.mk 11 0 [two,.mk 1 1 [],.mk 1 0 []]
def zHw(a one two c:Tm)(i:Nat):Prop:= ∀ j,j <i→(zDT c j).kind=4∧kidT (zDT c j) 0=zEl a one two j
theorem zEr{a one two c:Tm}(hc:checkT c=0): ∀ i,zHw a one two c i→checkT (zDT c i)=0
 |0,_=>hc
 |i+1,h=>zzT (zEr hc i fun j hj=>h j (by omega)) (i:=1) (by rw[(h i (by omega)).1];decide)
theorem zGL{a one two c:Tm}{i:Nat}(hi:i <3)(h: ¬((zDT c i).kind=4∧kidT (zDT c i) 0=zEl a one two i)):zCL a one two c=false:=by
 unfold zCL
 match i,hi with
 |0,_=>
  have:(decide (c.kind=4)&&decide (kidT c 0=a))=false:=by
   rw[Bool.and_eq_false_iff,decide_eq_false_iff_not,decide_eq_false_iff_not]
   exact Classical.or_iff_not_imp_left.2 fun q r=>h ⟨Classical.not_not.1 q,r⟩
  rw[this];rfl
 |1,_=>
  have:(decide ((kidT c 1).kind=4)&&decide (kidT (kidT c 1) 0=one))=false:=by
   rw[Bool.and_eq_false_iff,decide_eq_false_iff_not,decide_eq_false_iff_not]
   exact Classical.or_iff_not_imp_left.2 fun q r=>h ⟨Classical.not_not.1 q,r⟩
  rw[this];simp
 |2,_=>
  have:(decide ((kidT (kidT c 1) 1).kind=4)&&decide (kidT (kidT (kidT c 1) 1) 0=.mk 11 0 [two,.mk 1 1 [],.mk 1 0 []]))=false:=by
   rw[Bool.and_eq_false_iff,decide_eq_false_iff_not,decide_eq_false_iff_not]
   exact Classical.or_iff_not_imp_left.2 fun q r=>h ⟨Classical.not_not.1 q,r⟩
  rw[this];simp
theorem zGb{a one two c:Tm}(h:zHw a one two c 3):zCL a one two c=decide ((zDT c 3).kind=2):=by
 have h0:=h 0 (by omega)
 have h1:=h 1 (by omega)
 have h2:=h 2 (by omega)
 unfold zCL
 show((decide (c.kind=4)&&decide (kidT c 0=a))&&((decide ((kidT c 1).kind=4)&&decide (kidT (kidT c 1) 0=one))&&((decide ((kidT (kidT c 1) 1).kind=4)&&decide (kidT (kidT (kidT c 1) 1) 0=.mk 11 0 [two,.mk 1 1 [],.mk 1 0 []]))&&decide ((kidT (kidT (kidT c 1) 1) 1).kind=2))))=_
 rw[decide_eq_true (show c.kind=4 from h0.1),decide_eq_true (show kidT c 0=a from h0.2),decide_eq_true (show(kidT c 1).kind=4 from h1.1),decide_eq_true (show kidT (kidT c 1) 0=one from h1.2),decide_eq_true (show(kidT (kidT c 1) 1).kind=4 from h2.1),decide_eq_true (show kidT (kidT (kidT c 1) 1) 0=.mk 11 0 [two,.mk 1 1 [],.mk 1 0 []]from h2.2)]
 simp only[Bool.true_and,Bool.and_true]
 rfl
set_option maxHeartbeats 4000000 in
theorem zFC(c a one two:Tm)(hc:checkT c=0):FC Tryz.prog 223 [aT c,aT a,aT one,aT two] (.bool (zCL a one two c)):=by
 have hv1:=ziL 1
 have hv0:=ziL 0
 have hnd:=(zdZ 11 [two,.mk 1 1 [],.mk 1 0 []]).args (xs:=[.int .i64 11,.lst 3 [cT two,cT (.mk 1 1 []),cT (.mk 1 0 [])] true]) (.cons (.refl _) (.cons (by rw[←rs3];exact .full _ _ _) .nil))
 refine zo hty Tryz.func223 rfl rfl rfl fun w0=>?_
 repeat'(first|refine zD (id:=1) zFf rfl (by kernel_rfl) ?_|refine zad 0 rfl hv1 rfl rfl rfl ?_|refine zad 0 rfl hv0 rfl rfl rfl ?_|refine zad 0 rfl hnd rfl rfl rfl ?_|refine zu (.inl ⟨rfl,zI hty rfl rfl⟩) ?_|refine zS ⟨by kernel_rfl,?_⟩|refine WL_p hty rfl rfl ?_|refine zh ?_|refine zi ?_|refine za ?_|refine zf ?_)
 refine zW 3 (zHw a one two c) (fun i=>⟨envOf [(4,.ptr 4 0),(18,.lst 3 [cT (zEl a one two 0),cT (zEl a one two 1),cT (zEl a one two 2)] true),(19,.int .i64 3),(20,.int .i64 (i:Nat))],bkOf [(4,.box (cT (zDT c i)))]⟩)
  (zfY ⟨zz rfl rfl,zz rfl rfl,zz rfl rfl,zz rfl rfl,trivial⟩ ⟨zw rfl rfl,trivial⟩) (fun j hj=>by omega) ?_
 intro i hi hI
 have hci:=zEr hc i hI
 repeat'(first|refine zi ?_|refine za ?_)
 refine zj rfl rfl rfl rfl (fun hq=>?_) (fun hq=>?_)
 ·have hlt:i <3:=by omega
  have rk:([cT (zEl a one two 0),cT (zEl a one two 1),cT (zEl a one two 2)]:List (List AV))[i]? =some (cT (zEl a one two i)):=by
   match i,hlt with
   |0,_=>rfl
   |1,_=>rfl
   |2,_=>rfl
  have hno:=fun h=>zGL (a:=a) (one:=one) (two:=two) (c:=c) hlt h
  by_cases h4:(zDT c i).kind=4
  ·have kf:kidsR (zDT c i).kind=2:=by rw[h4];decide
   have f0:=zCB hci (i:=0) (by omega)
   have f1:=zCB hci (i:=1) (by omega)
   have z0:=(zcH (zzT hci (i:=0) (by omega))).1
   have heq:=zd7 (kidT (zDT c i) 0) (zEl a one two i) (by omega)
   by_cases h5:kidT (zDT c i) 0=zEl a one two i
   ·rw[decide_eq_true h5]at heq
    repeat'(first|exact absurd h4 ‹_›|refine zD (id:=4) zC8 rfl (by kernel_rfl) ?_|refine zbc rfl (zaq hty rfl rfl rfl (by decide) f0 rfl) ?_|refine WL_m rfl (zaq hty rfl rfl rfl (by decide) f1 rfl) ?_|refine zad 0 rfl heq rfl rfl rfl ?_|refine WL_m rfl (zm hty rfl rfl rfl rk rfl) ?_|refine zu (.inl ⟨rfl,zI hty rfl rfl⟩) ?_|refine zaG rfl rfl ?_|refine zS ⟨by kernel_rfl,?_⟩|refine WL_p hty rfl rfl ?_|refine zh ?_|refine zi ?_|refine za ?_|refine zf ?_|refine zxg ?_|refine zd rfl ?_|refine zbZ rfl ?_|refine zaC rfl rfl rfl rfl (fun _=>?_) (fun _=>?_))
    refine⟨hlt,fun j hj=>?_,(zfY ⟨zz rfl rfl,zz rfl rfl,zz rfl rfl,⟨_,rfl,zO ?_ rfl⟩,trivial⟩ ⟨zw rfl rfl,trivial⟩)⟩
    ·by_cases e:j=i
     ·subst e;exact⟨h4,h5⟩
     ·exact hI j (by omega)
    ·exact congrArg (AV.int .i64) ((zy (by omega) (by omega)).trans (by omega))
   ·rw[decide_eq_false h5]at heq
    have hn:=hno (fun q=>h5 q.2)
    rw[hn]
    repeat'(first|exact absurd h4 ‹_›|refine zD (id:=4) zC8 rfl (by kernel_rfl) ?_|refine zbc rfl (zaq hty rfl rfl rfl (by decide) f0 rfl) ?_|refine zad 0 rfl heq rfl rfl rfl ?_|refine WL_m rfl (zm hty rfl rfl rfl rk rfl) ?_|refine zu (.inl ⟨rfl,zI hty rfl rfl⟩) ?_|refine zaG rfl rfl ?_|refine zS ⟨by kernel_rfl,?_⟩|refine WL_p hty rfl rfl ?_|refine zh ?_|refine zi ?_|refine za ?_|refine zf ?_|refine zxg ?_|refine zd rfl ?_|refine zg ?_|refine zb rfl ?_|refine zaC rfl rfl rfl rfl (fun _=>?_) (fun _=>?_))
    all_goals rfl
  ·have hn:=hno (fun q=>h4 q.1)
   rw[hn]
   repeat'(first|exact absurd h4 (by assumption)|refine zD (id:=4) zC8 rfl (by kernel_rfl) ?_|refine WL_m rfl (zm hty rfl rfl rfl rk rfl) ?_|refine zu (.inl ⟨rfl,zI hty rfl rfl⟩) ?_|refine zav rfl rfl rfl ?_|refine zS ⟨by kernel_rfl,?_⟩|refine WL_p hty rfl rfl ?_|refine zh ?_|refine zi ?_|refine za ?_|refine zf ?_|refine zxg ?_|refine zd rfl ?_|refine zg ?_|refine zb rfl ?_|refine zaC rfl rfl rfl rfl (fun _=>?_) (fun _=>?_))
   all_goals rfl
 ·obtain rfl:i=3:=by omega
  rw[zGb hI]
  by_cases h2:(zDT c 3).kind=2
  ·rw[decide_eq_true h2]
   repeat'(first|exact absurd h2 ‹_›|refine WL_p hty rfl rfl ?_|refine zh ?_|refine zi ?_|refine za ?_|refine zbZ rfl ?_|refine zl ?_|refine zg ?_|refine zb rfl ?_|refine zj rfl rfl rfl rfl (fun _=>?_) (fun _=>?_))
   all_goals rfl
  ·rw[decide_eq_false h2]
   repeat'(first|exact absurd (by assumption) h2|refine WL_p hty rfl rfl ?_|refine zh ?_|refine zi ?_|refine za ?_|refine zbZ rfl ?_|refine zl ?_|refine zg ?_|refine zb rfl ?_|refine zj rfl rfl rfl rfl (fun _=>?_) (fun _=>?_))
   all_goals rfl
section
variable {σ:Type} {N:σ→Tm→Tm×Int×σ} {nf:AV} {tA tB:σ→Nat→AB} {tC:σ→AB} {ok:σ→Prop} {cnt:σ→Nat} {env:List En} (hN:LN N nf tA tB tC ok cnt)
variable {ty:List Tm→Tm→WM σ Tm} {ctx:List Tm} {t:Tm} {s:σ} (hK:NK N) (kt:KT N nf tA tB tC ok cnt env ty t) (hc:checkT t=0) (hx: ∀ x,x∈ctx→C0 x) (hl:ctx.length≤40) (ho:ok s) (hn:cnt s+4*t.size≤4000000)
include hN hK kt hc hx hl ho hn
set_option maxHeartbeats 16000000 in
set_option maxRecDepth 100000 in
theorem zGH(hk:t.kind=13):
 MV Tryz.prog 2 189 [.ptr 3 0,sT ctx,aT t] (KS nf tA tB tC env (0,s)) (aT (zGd N ty ctx t (0,s)).1) (KS nf tA tB tC env (zGd N ty ctx t (0,s)).2):=by
 have k3:kidsR t.kind=3:=by rw[hk];decide
 have row0:=zCB hc (i:=0) (by omega)
 have row1:=zCB hc (i:=1) (by omega)
 have row2:=zCB hc (i:=2) (by omega)
 have z:=zC4 hc (by omega)
 have z0:=(zcH (zzT hc (i:=0) (by omega))).1
 have z2:=(zcH (zzT hc (i:=2) (by omega))).1
 have h1:=kt.mv ctx 2 (0,s) (by omega) fun _=>⟨hx,hl,ho,by show cnt s+_≤_;omega⟩
 have s1:=step (kt.er ctx (kidT t 2)) (kt.co ctx 2 (by omega)) (kt.po ctx 2 (by omega) hx) (0,s)
 rw[show zGd N ty ctx t (0,s)=(let r1:=ty ctx (kidT t 2) (0,s);zBh (decide (r1.1.kind=11)) 8 (
  zyN (zAz (kidT r1.1 0) 1) fun one=>zyN (zAz (kidT r1.1 0) 2) fun two=>zyN (ty ctx (kidT t 0)) fun c=>okW zT (zBh (zCL (kidT r1.1 0) one two c) 8 (
  zyN (ty ctx (kidT t 1)) fun d=>zyN (zAz (kidT t 0) 1) fun c1=>
  zyN (normW N (.mk 4 0 [kidT r1.1 0,appsT c1 [.mk 1 0 [],.mk 1 0 [],.mk 12 0 [one,.mk 1 0 []]]])) fun x=>zyN (wantW (decide (d=x)) 8) fun _=>normW N (appsT (kidT t 0) [kidT r1.1 1,kidT r1.1 2,kidT t 2])))) r1.2)from rfl]
 generalize ty ctx (kidT t 2) (0,s)=r1 at h1 s1⊢
 obtain⟨a1,c1⟩:=s1
 obtain⟨o1,c1⟩:=c1 ho
 obtain⟨p,e1,s1⟩:=r1
 dsimp only at a1 o1 c1 h1⊢
 have h2:=zBV hN (env:=env) (e1,s1) (decide (p.kind=11)) 8 (fun _=>by decide)
 by_cases hg:e1=0∧p.kind=11
 case neg=>
  have hw:=zC6 (w:=(e1,s1)) (p:=p.kind=11) (er:=8) hg
  rw[show ∀ m:WM σ Tm,zBh (decide (p.kind=11)) 8 m (e1,s1)=(zT,(wantW (decide (p.kind=11)) 8 (e1,s1)).2)from fun m=>by unfold zBh zyN;rw[hw];rfl]
  rw[hw]at h2
  generalize (wantW (decide (p.kind=11)) 8 (e1,s1)).2=w2 at h2⊢
  clear a1 c1 hx hn hg hw
  by_cases g4:p.kind=11
  ·rw[decide_eq_true g4]at h2
   refine zzj hN Tryz.func189 rfl rfl rfl fun w0 B0 B1 B3=>?_
   repeat'(first|exact absurd g4 ‹_›|refine WL_m rfl (zaq hty rfl rfl rfl (by decide) row2 rfl) ?_|refine WL_m rfl (zyD hN 0 1021 h1 rfl rfl rfl rfl rfl rfl rfl rfl) ?_|refine WL_m rfl (zyD hN 1019 1026 h2 rfl rfl rfl rfl rfl rfl rfl rfl) ?_|refine WL_p hty rfl rfl ?_|refine zh ?_|refine zi ?_|refine za ?_|refine zd rfl ?_|refine zg ?_|refine zj rfl rfl rfl rfl (fun _=>?_) (fun _=>?_))
   exact zAU 1024 rfl rfl rfl rfl rfl rfl rfl (zCj _)
  ·rw[decide_eq_false g4]at h2
   refine zzj hN Tryz.func189 rfl rfl rfl fun w0 B0 B1 B3=>?_
   repeat'(first|exact absurd (by assumption) g4|refine WL_m rfl (zaq hty rfl rfl rfl (by decide) row2 rfl) ?_|refine WL_m rfl (zyD hN 0 1021 h1 rfl rfl rfl rfl rfl rfl rfl rfl) ?_|refine WL_m rfl (zyD hN 1019 1026 h2 rfl rfl rfl rfl rfl rfl rfl rfl) ?_|refine WL_p hty rfl rfl ?_|refine zh ?_|refine zi ?_|refine za ?_|refine zd rfl ?_|refine zg ?_|refine zj rfl rfl rfl rfl (fun _=>?_) (fun _=>?_))
   exact zAU 1024 rfl rfl rfl rfl rfl rfl rfl (zCj _)
 obtain⟨g0,g4⟩:=hg
 obtain⟨_,cf⟩:=a1 g0
 have kf:kidsR p.kind=3:=by rw[g4];decide
 have f0:=zCB cf (i:=0) (by omega)
 have f1:=zCB cf (i:=1) (by omega)
 have f2:=zCB cf (i:=2) (by omega)
 have zf0:=(zcH (zzT cf (i:=0) (by omega))).1
 have zf1:=(zcH (zzT cf (i:=1) (by omega))).1
 have zf2:=(zcH (zzT cf (i:=2) (by omega))).1
 subst g0
 rw[decide_eq_true g4]at h2⊢
 rw[show wantW true 8 ((0:Int),s1)=(true,(0,s1))from rfl]at h2
 rw[show ∀ m:WM σ Tm,zBh true 8 m ((0:Int),s1)=m (0,s1)from fun _=>rfl]
 have h3:=zCX hN (env:=env) ((0:Int),s1) (kidT p 0) 1 (fun _=>by omega)
 have s3:=step (ok:=ok) (cnt:=cnt) (Er.shift (σ:=σ) (kidT p 0) 1) (Co.shift _ _) (Po.shift (kidT p 0) 1) ((0:Int),s1)
 have sz3:=zDJ (kidT p 0) 1 ((0:Int),s1)
 rw[show ∀ f:Tm→WM σ Tm,zyN (zAz (kidT p 0) 1) f ((0:Int),s1)=f (zAz (kidT p 0) 1 ((0:Int),s1)).1 (zAz (kidT p 0) 1 ((0:Int),s1)).2 from fun _=>rfl]
 generalize zAz (kidT p 0) 1 ((0:Int),s1)=r3 at h3 s3 sz3⊢
 obtain⟨a3,c3⟩:=s3
 obtain⟨o3,c3⟩:=c3 o1
 obtain⟨one,w3⟩:=r3
 dsimp only at a3 c3 o3 sz3 h3⊢
 have h4:=zCX hN (env:=env) w3 (kidT p 0) 2 (fun _=>by omega)
 have s4:=step (ok:=ok) (cnt:=cnt) (Er.shift (σ:=σ) (kidT p 0) 2) (Co.shift _ _) (Po.shift (kidT p 0) 2) w3
 have sz4:=zDJ (kidT p 0) 2 w3
 rw[show ∀ f:Tm→WM σ Tm,zyN (zAz (kidT p 0) 2) f w3=f (zAz (kidT p 0) 2 w3).1 (zAz (kidT p 0) 2 w3).2 from fun _=>rfl]
 generalize zAz (kidT p 0) 2 w3=r4 at h4 s4 sz4⊢
 obtain⟨a4,c4⟩:=s4
 obtain⟨o4,c4⟩:=c4 o3
 obtain⟨two,w4⟩:=r4
 dsimp only at a4 c4 o4 sz4 h4⊢
 have h5:=kt.mv ctx 0 w4 (by omega) fun _=>⟨hx,hl,o4,by omega⟩
 have s5:=step (kt.er ctx (kidT t 0)) (kt.co ctx 0 (by omega)) (kt.po ctx 0 (by omega) hx) w4
 rw[show ∀ f:Tm→WM σ Tm,zyN (ty ctx (kidT t 0)) f w4=f (ty ctx (kidT t 0) w4).1 (ty ctx (kidT t 0) w4).2 from fun _=>rfl]
 generalize ty ctx (kidT t 0) w4=r5 at h5 s5⊢
 obtain⟨a5,c5⟩:=s5
 obtain⟨o5,c5⟩:=c5 o4
 obtain⟨c,e5,s5⟩:=r5
 dsimp only at a5 c5 o5 h5⊢
 by_cases g5:e5=0
 case neg=>
  rw[show ∀ m:WM σ Tm,okW zT m (e5,s5)=(zT,(e5,s5))from fun m=>by unfold okW;rw[if_pos g5]]
  clear a1 a3 a4 a5 c1 c3 c4 c5 hx hn
  refine zzj hN Tryz.func189 rfl rfl rfl fun w0 B0 B1 B3=>?_
  repeat'(first|exact absurd g4 ‹_›|exact absurd g5 (by assumption)|refine WL_m rfl (zaq hty rfl rfl rfl (by decide) row2 rfl) ?_|refine WL_m rfl (zaq hty rfl rfl rfl (by decide) row0 rfl) ?_|refine WL_m rfl (zaq hty rfl rfl rfl (by decide) f0 rfl) ?_|refine zD (id:=5) zCS rfl (by kernel_rfl) ?_|refine WL_m rfl (zyD hN 0 1021 h1 rfl rfl rfl rfl rfl rfl rfl rfl) ?_|refine WL_m rfl (zyD hN 1019 1026 h2 rfl rfl rfl rfl rfl rfl rfl rfl) ?_|refine zbc rfl (zyD hN 1024 1035 h3 rfl rfl rfl rfl rfl rfl rfl rfl) ?_|refine zbc rfl (zyD hN 1033 1038 h4 rfl rfl rfl rfl rfl rfl rfl rfl) ?_|refine WL_m rfl (zyD hN 1036 1045 h5 rfl rfl rfl rfl rfl rfl rfl rfl) ?_|refine zu (.inl ⟨rfl,zI hty rfl rfl⟩) ?_|refine zS ⟨by kernel_rfl,?_⟩|refine WL_p hty rfl rfl ?_|refine zh ?_|refine zi ?_|refine za ?_|refine zxg ?_|refine zd rfl ?_|refine zbZ rfl ?_|refine zg ?_|refine zot rfl rfl rfl ?_|refine zj rfl rfl rfl rfl (fun _=>?_) (fun _=>?_))
  exact zAU 1043 rfl rfl rfl rfl rfl rfl rfl (zCj _)
 subst g5
 rw[show ∀ m:WM σ Tm,okW zT m ((0:Int),s5)=m (0,s5)from fun _=>rfl]
 have cc:=(a5 rfl).2
 have hm:=zFC c (kidT p 0) one two cc
 have h6:=zBV hN (env:=env) ((0:Int),s5) (zCL (kidT p 0) one two c) 8 (fun _=>by decide)
 cases hb:zCL (kidT p 0) one two c with
 |false=>
  rw[hb]at hm h6
  rw[show ∀ m:WM σ Tm,zBh false 8 m ((0:Int),s5)=(zT,(8,s5))from fun m=>rfl]
  rw[show wantW false 8 ((0:Int),s5)=(false,(8,s5))from rfl]at h6
  clear a1 a3 a4 a5 c1 c3 c4 c5 hx hn
  refine zzj hN Tryz.func189 rfl rfl rfl fun w0 B0 B1 B3=>?_
  repeat'(first|exact absurd g4 ‹_›|exact absurd rfl ‹_›|refine WL_m rfl (zaq hty rfl rfl rfl (by decide) row2 rfl) ?_|refine WL_m rfl (zaq hty rfl rfl rfl (by decide) row0 rfl) ?_|refine WL_m rfl (zaq hty rfl rfl rfl (by decide) f0 rfl) ?_|refine zD (id:=5) zCS rfl (by kernel_rfl) ?_|refine zv 0 rfl hm rfl rfl rfl ?_|refine WL_m rfl (zyD hN 0 1021 h1 rfl rfl rfl rfl rfl rfl rfl rfl) ?_|refine WL_m rfl (zyD hN 1019 1026 h2 rfl rfl rfl rfl rfl rfl rfl rfl) ?_|refine zbc rfl (zyD hN 1024 1035 h3 rfl rfl rfl rfl rfl rfl rfl rfl) ?_|refine zbc rfl (zyD hN 1033 1038 h4 rfl rfl rfl rfl rfl rfl rfl rfl) ?_|refine WL_m rfl (zyD hN 1036 1045 h5 rfl rfl rfl rfl rfl rfl rfl rfl) ?_|refine WL_m rfl (zyD hN 1043 1058 h6 rfl rfl rfl rfl rfl rfl rfl rfl) ?_|refine zu (.inl ⟨rfl,zI hty rfl rfl⟩) ?_|refine zS ⟨by kernel_rfl,?_⟩|refine WL_p hty rfl rfl ?_|refine zh ?_|refine zi ?_|refine za ?_|refine zxg ?_|refine zd rfl ?_|refine zbZ rfl ?_|refine zg ?_|refine zx rfl rfl ?_|refine zj rfl rfl rfl rfl (fun _=>?_) (fun _=>?_))
  exact zAU 1056 rfl rfl rfl rfl rfl rfl rfl (zCj _)
 |true=>
  rw[hb]at hm h6
  rw[show ∀ m:WM σ Tm,zBh true 8 m ((0:Int),s5)=m (0,s5)from fun m=>rfl]
  rw[show wantW true 8 ((0:Int),s5)=(true,(0,s5))from rfl]at h6
  have h7:=kt.mv ctx 1 ((0:Int),s5) (by omega) fun _=>⟨hx,hl,o5,by show cnt s5+_≤_;omega⟩
  have s7:=step (kt.er ctx (kidT t 1)) (kt.co ctx 1 (by omega)) (kt.po ctx 1 (by omega) hx) ((0:Int),s5)
  have sz7:=kt.sz ctx 1 ((0:Int),s5) (by omega) (fun _=>hx)
  rw[show ∀ f:Tm→WM σ Tm,zyN (ty ctx (kidT t 1)) f ((0:Int),s5)=f (ty ctx (kidT t 1) ((0:Int),s5)).1 (ty ctx (kidT t 1) ((0:Int),s5)).2 from fun _=>rfl]
  generalize ty ctx (kidT t 1) ((0:Int),s5)=r7 at h7 s7 sz7⊢
  obtain⟨a7,c7⟩:=s7
  obtain⟨o7,c7⟩:=c7 o5
  obtain⟨dd,w7⟩:=r7
  dsimp only at a7 c7 o7 sz7 h7⊢
  have h8:=zCX hN (env:=env) w7 (kidT t 0) 1 (fun _=>by omega)
  have s8:=step (ok:=ok) (cnt:=cnt) (Er.shift (σ:=σ) (kidT t 0) 1) (Co.shift _ _) (Po.shift (kidT t 0) 1) w7
  have sz8:=zDJ (kidT t 0) 1 w7
  rw[show ∀ f:Tm→WM σ Tm,zyN (zAz (kidT t 0) 1) f w7=f (zAz (kidT t 0) 1 w7).1 (zAz (kidT t 0) 1 w7).2 from fun _=>rfl]
  generalize zAz (kidT t 0) 1 w7=r8 at h8 s8 sz8⊢
  obtain⟨a8,c8⟩:=s8
  obtain⟨o8,c8⟩:=c8 o7
  obtain⟨cu,w8⟩:=r8
  dsimp only at a8 c8 o8 sz8 h8⊢
  have hv0:=ziL 0
  have n1:=(zdZ 12 [one,.mk 1 0 []]).args (xs:=[.int .i64 12,.lst 3 [cT one,cT (.mk 1 0 [])] true]) (.cons (.refl _) (.cons (by rw[←rs2];exact .full _ _ _) .nil))
  have ap1:=(zEo cu [.mk 1 0 [],.mk 1 0 [],.mk 12 0 [one,.mk 1 0 []]] (by simp)).args (xs:=[aT cu,.lst 3 [cT (.mk 1 0 []),cT (.mk 1 0 []),cT (.mk 12 0 [one,.mk 1 0 []])] true]) (.cons (.refl _) (.cons (by rw[←rs3];exact .full _ _ _) .nil))
  have za1:(appsT cu [.mk 1 0 [],.mk 1 0 [],.mk 12 0 [one,.mk 1 0 []]]).size≤13000:=by simp only[appsT,List.foldl,Tm.size,sizes];omega
  generalize appsT cu [.mk 1 0 [],.mk 1 0 [],.mk 12 0 [one,.mk 1 0 []]]=ap at ap1 za1⊢
  have n2:=(zdZ 4 [kidT p 0,ap]).args (xs:=[.int .i64 4,.lst 3 [cT (kidT p 0),cT ap] true]) (.cons (.refl _) (.cons (by rw[←rs2];exact .full _ _ _) .nil))
  have h9:=zCs hN (env:=env) w8 (.mk 4 0 [kidT p 0,ap]) (fun _=>⟨by simp only[Tm.size,sizes];omega,o8,by omega⟩)
  have s9:=step (Er.norm (N:=N) (.mk 4 0 [kidT p 0,ap])) (Co.norm hN _) (Po.norm hK (.mk 4 0 [kidT p 0,ap])) w8
  have sz9:=zCJ hK (.mk 4 0 [kidT p 0,ap]) w8
  rw[show ∀ f:Tm→WM σ Tm,zyN (normW N (.mk 4 0 [kidT p 0,ap])) f w8=f (normW N (.mk 4 0 [kidT p 0,ap]) w8).1 (normW N (.mk 4 0 [kidT p 0,ap]) w8).2 from fun _=>rfl]
  generalize normW N (.mk 4 0 [kidT p 0,ap]) w8=r9 at h9 s9 sz9⊢
  obtain⟨a9,c9⟩:=s9
  obtain⟨o9,c9⟩:=c9 o8
  obtain⟨xx,w9⟩:=r9
  dsimp only at a9 c9 o9 sz9 h9⊢
  have heq:=zd7 dd xx (by omega)
  have hA:=zBV hN (env:=env) w9 (decide (dd=xx)) 8 (fun _=>by decide)
  have sA:=Co.want (ok:=ok) (cnt:=cnt) (decide (dd=xx)) 8 w9 o9
  rw[show ∀ f:Bool→WM σ Tm,zyN (wantW (decide (dd=xx)) 8) f w9=f (wantW (decide (dd=xx)) 8 w9).1 (wantW (decide (dd=xx)) 8 w9).2 from fun _=>rfl]
  generalize wantW (decide (dd=xx)) 8 w9=rA at hA sA⊢
  generalize decide (dd=xx)=bA at heq hA
  have ap2:=(zEo (kidT t 0) [kidT p 1,kidT p 2,kidT t 2] (by simp)).args (xs:=[aT (kidT t 0),.lst 3 [cT (kidT p 1),cT (kidT p 2),cT (kidT t 2)] true]) (.cons (.refl _) (.cons (by rw[←rs3];exact .full _ _ _) .nil))
  have za2:(appsT (kidT t 0) [kidT p 1,kidT p 2,kidT t 2]).size≤30000:=by simp only[appsT,List.foldl,Tm.size,sizes];omega
  generalize appsT (kidT t 0) [kidT p 1,kidT p 2,kidT t 2]=ap' at ap2 za2⊢
  have hB:=zCs hN (env:=env) rA.2 ap' (fun _=>⟨by omega,sA.1,by have:=sA.2;omega⟩)
  generalize normW N ap' rA.2=rB at hB⊢
  clear a1 a3 a4 a5 a7 a8 a9 c1 c3 c4 c5 c7 c8 c9 hx hn
  refine zzj hN Tryz.func189 rfl rfl rfl fun w0 B0 B1 B3=>?_
  repeat'(first|exact absurd g4 ‹_›|exact absurd rfl ‹_›|refine WL_m rfl (zaq hty rfl rfl rfl (by decide) row2 rfl) ?_|refine WL_m rfl (zaq hty rfl rfl rfl (by decide) row0 rfl) ?_|refine WL_m rfl (zaq hty rfl rfl rfl (by decide) row1 rfl) ?_|refine WL_m rfl (zaq hty rfl rfl rfl (by decide) f0 rfl) ?_|refine zbc rfl (zaq hty rfl rfl rfl (by decide) row2 rfl) ?_|refine zbc rfl (zaq hty rfl rfl rfl (by decide) row0 rfl) ?_|refine zbc rfl (zaq hty rfl rfl rfl (by decide) f1 rfl) ?_|refine zbc rfl (zaq hty rfl rfl rfl (by decide) f2 rfl) ?_|refine zD (id:=5) zCS rfl (by kernel_rfl) ?_|refine zD (id:=11) zD9 rfl (by kernel_rfl) ?_|refine zD (id:=13) zEc rfl (by kernel_rfl) ?_|refine zv 0 rfl hm rfl rfl rfl ?_|refine zad 0 rfl hv0 rfl rfl rfl ?_|refine zad 0 rfl n1 rfl rfl rfl ?_|refine zad 0 rfl ap1 rfl rfl rfl ?_|refine zad 0 rfl n2 rfl rfl rfl ?_|refine zad 0 rfl ap2 rfl rfl rfl ?_|refine zv 0 rfl heq rfl rfl rfl ?_|refine WL_m rfl (zyD hN 0 1021 h1 rfl rfl rfl rfl rfl rfl rfl rfl) ?_|refine WL_m rfl (zyD hN 1019 1026 h2 rfl rfl rfl rfl rfl rfl rfl rfl) ?_|refine zbc rfl (zyD hN 1024 1035 h3 rfl rfl rfl rfl rfl rfl rfl rfl) ?_|refine zbc rfl (zyD hN 1033 1038 h4 rfl rfl rfl rfl rfl rfl rfl rfl) ?_|refine WL_m rfl (zyD hN 1036 1045 h5 rfl rfl rfl rfl rfl rfl rfl rfl) ?_|refine WL_m rfl (zyD hN 1043 1058 h6 rfl rfl rfl rfl rfl rfl rfl rfl) ?_|refine WL_m rfl (zyD hN 1056 1068 h7 rfl rfl rfl rfl rfl rfl rfl rfl) ?_|refine WL_m rfl (zyD hN 1066 1074 h8 rfl rfl rfl rfl rfl rfl rfl rfl) ?_|refine zbc rfl (zyD hN 1072 1088 h9 rfl rfl rfl rfl rfl rfl rfl rfl) ?_|refine WL_m rfl (zyD hN 1086 1093 hA rfl rfl rfl rfl rfl rfl rfl rfl) ?_|refine zbc rfl (zyD hN 1091 1113 hB rfl rfl rfl rfl rfl rfl rfl rfl) ?_|refine zu (.inl ⟨rfl,zI hty rfl rfl⟩) ?_|refine zS ⟨by kernel_rfl,?_⟩|refine WL_p hty rfl rfl ?_|refine zh ?_|refine zi ?_|refine za ?_|refine zxg ?_|refine zbZ rfl ?_|refine zg ?_|refine zx rfl rfl ?_|refine zj rfl rfl rfl rfl (fun _=>?_) (fun _=>?_))
  exact zAU 1111 rfl rfl rfl rfl rfl rfl rfl (.refl _)
end
end Go.Proofs.YtokfbblhjpfjkaaGreat
