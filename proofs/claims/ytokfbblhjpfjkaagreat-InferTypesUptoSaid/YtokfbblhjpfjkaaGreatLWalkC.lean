/- The types of variables, universes, constants, of functions' and pairs' types, of -/
import Derived.Test.YtokfbblhjpfjkaaGreatLWalkB
import Derived.Test.YtokfbblhjpfjkaaGreatLInferQ
set_option linter.unusedSimpArgs false
set_option linter.unusedVariables false
namespace Go.Proofs.YtokfbblhjpfjkaaGreat
open Go.Aw Go.RowKit
def zEu:List (Nat×List Nat):=[(0,[]),(1,[]),(2,[]),(3,[2]),(4,[2,3]),(5,[]),(6,[5]),(7,[2,3,4,5,6]),(8,[1,2,3,4,5,6,7]),(9,[1,2,3,4,5,6,7,8]),(10,[]),(11,[10]),(12,[10,11]),(13,[0,1,2,3,4,5,6,7,8,9,10,11,12]),(14,[0,1,2,3,4,5,6,7,8,9,10,11,12,13])]
def zDc:List (Nat×List Nat):=[(0,[]),(1,[]),(2,[1]),(3,[]),(4,[3]),(5,[3,4]),(6,[3,4,5]),(7,[3,4,5,6]),(8,[1,2,3,4,5,6,7]),(9,[0,1,2,3,4,5,6,7,8]),(10,[0,1,2,3,4,5,6,7,8,9])]
def zEN:List (Nat×List Nat):=[(0,[]),(1,[0]),(2,[0,1]),(3,[0,1,2]),(4,[]),(5,[4]),(6,[0,1,2,3,4,5]),(7,[0,1,2,3,4,5,6]),(8,[0,1,2,3,4,5,6,7]),(9,[0,1,2,3,4,5,6,7,8])]
def zES:List (Nat×List Nat):=[(0,[100000,100001,100002,100003,101014,101020,101027,101032,101034,101035]),(1,[100000,100001,100002,100003,101014,101020,101027,101032,101034,101035]),(2,[100000,100001,100002,100003,101014,101020,101027,101032,101034,101035]),(3,[]),(4,[]),(5,[]),(6,[3,4,5]),(7,[100000,100001,100002,100003,101014,101020,101027,101032,101034,101035]),(8,[7,100000,100001,100002,100003,101014,101020,101027,101032,101034,101035]),(9,[7,8,100000,100001,100002,100003,101014,101020,101027,101032,101034,101035]),(10,[7,8,9,100000,100001,100002,100003,101014,101020,101027,101032,101034,101035]),(11,[2,3,4,5,6,7,8,9,10]),(12,[1,2,3,4,5,6,7,8,9,10,11]),(13,[1,2,3,4,5,6,7,8,9,10,11,12]),(14,[0,1,2,3,4,5,6,7,8,9,10,11,12,13]),(15,[0,1,2,3,4,5,6,7,8,9,10,11,12,13,14])]
def zCH:List (Nat×List Nat):=[(0,[]),(1,[]),(2,[1]),(3,[1,2]),(4,[0,1,2,3]),(5,[0,1,2,3,4]),(6,[0,1,2,3,4,5]),(7,[0,1,2,3,4,5,6]),(8,[0,1,2,3,4,5,6]),(9,[0,1,2,3,4,5,6]),(10,[0,1,2,3,4,5,6,9]),(11,[0,1,2,3,4,5,6,9,10]),(12,[0,1,2,3,4,5,6,9,10,11]),(13,[0,1,2,3,4,5,6]),(14,[0,1,2,3,4,5,6,13]),(15,[0,1,2,3,4,5,6,13,14]),(16,[0,1,2,3,4,5,6,13,14,15]),(17,[0,1,2,3,4,5,6,7,8,9,10,11,12,13,14,15,16]),(18,[0,1,2,3,4,5,6,7,8,9,10,11,12,13,14,15,16,17]),(19,[0,1,2,3,4,5,6,7,8,9,10,11,12,13,14,15,16,17,18])]
def zEt:List (Nat×List Nat):=[(0,[]),(1,[]),(2,[1]),(3,[1,2]),(4,[1,2,3]),(5,[]),(6,[5]),(7,[5,6]),(8,[5,6,7]),(9,[0,1,2,3,4,5,6,7,8]),(10,[0,1,2,3,4,5,6,7,8,9])]
attribute [local irreducible] WL AC WD WE MStep OkOp
section
variable {σ:Type} {N:σ→Tm→Tm×Int×σ} {nf:AV} {tA tB:σ→Nat→AB} {tC:σ→AB} {ok:σ→Prop} {cnt:σ→Nat} {env:List En}
structure KT (N:σ→Tm→Tm×Int×σ) (nf:AV) (tA tB:σ→Nat→AB) (tC:σ→AB) (ok:σ→Prop) (cnt:σ→Nat) (env:List En) (ty:List Tm→Tm→WM σ Tm) (t:Tm):Prop where
 mv: ∀ (c:List Tm) (i:Nat) (w:WS σ),(i:Int) <kidsR t.kind→(w.1=0→(∀ x,x∈c→C0 x)∧c.length≤40∧ok w.2∧cnt w.2+4*(kidT t i).size≤4000000)→
  MV Tryz.prog 2 99 [.ptr 3 0,sT c,aT (kidT t i)] (KS nf tA tB tC env w) (aT (ty c (kidT t i) w).1) (KS nf tA tB tC env (ty c (kidT t i) w).2)
 er: ∀ c u,Er (ty c u)
 co: ∀ c (i:Nat),(i:Int) <kidsR t.kind→Co ok cnt (ty c (kidT t i)) (4*(kidT t i).size)
 po: ∀ c (i:Nat),(i:Int) <kidsR t.kind→(∀ x,x∈c→C0 x)→Po (ty c (kidT t i)) C0
 sz: ∀ c (i:Nat) (w:WS σ),(i:Int) <kidsR t.kind→(w.1=0→ ∀ x,x∈c→C0 x)→(ty c (kidT t i) w).1.size≤20000
variable (hN:LN N nf tA tB tC ok cnt)
include hN
theorem zGF{ctx:List Tm}{t:Tm}{s:σ}(hc:checkT t=0)(hk:t.kind=1)(hx: ∀ x,x∈ctx→C0 x)(hl:ctx.length≤40):
 MV Tryz.prog 2 178 [.ptr 3 0,sT ctx,aT t] (KS nf tA tB tC env (0,s)) (aT (zF0 ctx t (0,s)).1) (KS nf tA tB tC env (zF0 ctx t (0,s)).2):=by
 obtain⟨n0,n1⟩:=zDd hc (.inl hk)
 have hr:=zeb ctx
 have h:=zBV hN (env:=env) (0,s) (decide (t.num <ctx.length)) 6 (fun _=>by decide)
 by_cases hq:t.num <ctx.length
 ·rw[decide_eq_true hq]at h
  have hv:zF0 ctx t (0,s)=zAz (ctx.getD (ctx.length-1-t.num.toNat) zT) (t.num+1) (0,s):=by unfold zF0;rw[decide_eq_true hq];rfl
  rw[hv]
  have hi:ctx.length-1-t.num.toNat <ctx.length:=by omega
  have hm:=zFt hi
  have hsz:=(zcH (hx _ hm)).1
  have w1:IntKind.i64.wrap (((rsT ctx).length:Int)-1)=(ctx.length:Int)-1:=(zy (by omega) (by omega)).trans (by omega)
  have w2:IntKind.i64.wrap (IntKind.i64.wrap (((rsT ctx).length:Int)-1)-t.num)=((ctx.length-1-t.num.toNat:Nat):Int):=by rw[w1];exact(zy (by omega) (by omega)).trans (by omega)
  have w3:IntKind.i64.wrap (t.num+1)=t.num+1:=zy (by omega) (by omega)
  have i0:0≤IntKind.i64.wrap (IntKind.i64.wrap (((rsT ctx).length:Int)-1)-t.num):=by rw[w2];omega
  have ir:(rsT ctx)[(IntKind.i64.wrap (IntKind.i64.wrap (((rsT ctx).length:Int)-1)-t.num)).toNat]? =some (cT (ctx.getD (ctx.length-1-t.num.toNat) zT)):=by
   rw[w2,Int.toNat_natCast]
   exact zac (by rw[List.getD_eq_getElem?_getD,List.getElem?_eq_getElem hi];rfl)
  have hs:=zCX hN (env:=env) (0,s) (ctx.getD (ctx.length-1-t.num.toNat) zT) (t.num+1) (fun _=>by omega)
  generalize zAz (ctx.getD (ctx.length-1-t.num.toNat) zT) (t.num+1) (0,s)=r at hs⊢
  rw[←w3]at hs
  refine zzj hN Tryz.func178 rfl rfl rfl fun w0 B0 B1 B3=>?_
  repeat'(first|(rename_i q;exact absurd hq (by omega))|refine zD (id:=3) zEu rfl (by kernel_rfl) ?_|refine zbc rfl (zaq hty rfl rfl rfl i0 ir rfl) ?_|refine WL_m rfl (zyD hN 0 1013 h rfl rfl rfl rfl rfl rfl rfl rfl) ?_|refine zbc rfl (zyD hN 1011 1029 hs rfl rfl rfl rfl rfl rfl rfl rfl) ?_|refine zu (.inl ⟨rfl,zI hty rfl rfl⟩) ?_|refine zS ⟨by kernel_rfl,?_⟩|refine WL_p hty rfl rfl ?_|refine zh ?_|refine zi ?_|refine za ?_|refine zxg ?_|refine zbZ rfl ?_|refine zg ?_|refine zj rfl rfl rfl rfl (fun _=>?_) (fun _=>?_))
  exact zAU 1027 rfl rfl rfl rfl rfl rfl rfl (.refl _)
 ·rw[decide_eq_false hq]at h
  have hv:zF0 ctx t (0,s)=(zT,(6,s)):=by unfold zF0;rw[decide_eq_false hq];rfl
  rw[hv]
  rw[show wantW false 6 (0,s)=(false,((6:Int),s))from rfl]at h
  refine zzj hN Tryz.func178 rfl rfl rfl fun w0 B0 B1 B3=>?_
  repeat'(first|(rename_i q;exact absurd q (by omega))|refine WL_m rfl (zyD hN 0 1013 h rfl rfl rfl rfl rfl rfl rfl rfl) ?_|refine WL_p hty rfl rfl ?_|refine zh ?_|refine zi ?_|refine za ?_|refine zd rfl ?_|refine zg ?_|refine zj rfl rfl rfl rfl (fun _=>?_) (fun _=>?_))
  exact zAU 1011 rfl rfl rfl rfl rfl rfl rfl (zCj _)
theorem zF3{ctx:List Tm}{t:Tm}{s:σ}(hc:checkT t=0)(hk:t.kind=2):
 MV Tryz.prog 2 179 [.ptr 3 0,sT ctx,aT t] (KS nf tA tB tC env (0,s)) (aT (zGX t (0,s)).1) (KS nf tA tB tC env (zGX t (0,s)).2):=by
 obtain⟨n0,n1⟩:=zDd hc (.inr (.inl hk))
 have h:=zBV hN (env:=env) (0,s) (decide (t.num <6)) 9 (fun _=>by decide)
 show MV _ _ _ _ _ (aT (.mk 2 (t.num+1) [])) (KS nf tA tB tC env (wantW (decide (t.num <6)) 9 (0,s)).2)
 generalize wantW (decide (t.num <6)) 9 (0,s)=r at h⊢
 have w3:IntKind.i64.wrap (t.num+1)=t.num+1:=zy (by omega) (by omega)
 have hu:=zFe (t.num+1)
 rw[←w3]at hu⊢
 by_cases hq:t.num <6
 ·rw[decide_eq_true hq]at h
  refine zzj hN Tryz.func179 rfl rfl rfl fun w0 B0 B1 B3=>?_
  repeat'(first|exact absurd hq ‹_›|refine WL_m rfl (zyD hN 0 1011 h rfl rfl rfl rfl rfl rfl rfl rfl) ?_|refine zv 0 rfl hu rfl rfl rfl ?_|refine WL_p hty rfl rfl ?_|refine zh ?_|refine zi ?_|refine za ?_|refine zg ?_|refine zj rfl rfl rfl rfl (fun _=>?_) (fun _=>?_))
  exact zAU 1009 rfl rfl rfl rfl rfl rfl rfl (.refl _)
 ·rw[decide_eq_false hq]at h
  refine zzj hN Tryz.func179 rfl rfl rfl fun w0 B0 B1 B3=>?_
  repeat'(first|exact absurd (by assumption) hq|refine WL_m rfl (zyD hN 0 1011 h rfl rfl rfl rfl rfl rfl rfl rfl) ?_|refine zv 0 rfl hu rfl rfl rfl ?_|refine WL_p hty rfl rfl ?_|refine zh ?_|refine zi ?_|refine za ?_|refine zg ?_|refine zj rfl rfl rfl rfl (fun _=>?_) (fun _=>?_))
  exact zAU 1009 rfl rfl rfl rfl rfl rfl rfl (.refl _)
theorem zFS{ctx:List Tm}{t:Tm}{s:σ}(hc:checkT t=0)(hk:t.kind=3):
 MV Tryz.prog 2 180 [.ptr 3 0,sT ctx,aT t] (KS nf tA tB tC env (0,s)) (aT (zDs env t (0,s)).1) (KS nf tA tB tC env (zDs env t (0,s)).2):=by
 obtain⟨n0,n1⟩:=zDd hc (.inr (.inr hk))
 have hr:=zaW env
 have h:=zBV hN (env:=env) (0,s) (decide (t.num <env.length)) 6 (fun _=>by decide)
 by_cases hq:t.num <env.length
 ·rw[decide_eq_true hq]at h
  rw[show wantW true 6 (0,s)=(true,((0:Int),s))from rfl]at h
  have hi:t.num.toNat <env.length:=by omega
  obtain⟨e,he,_⟩:=zA hi
  have hv:zDs env t (0,s)=(e.typ,((0:Int),s)):=by unfold zDs;rw[decide_eq_true hq,he];rfl
  rw[hv]
  have ir:(rsE env)[t.num.toNat]? =some (cE e):=zeM he
  refine zzj hN Tryz.func180 rfl rfl rfl fun w0 B0 B1 B3=>?_
  repeat'(first|(rename_i q;exact absurd hq (by omega))|refine zD (id:=1) zDc rfl (by kernel_rfl) ?_|refine zD (id:=3) zEN rfl (by kernel_rfl) ?_|refine zbc rfl (zaq hty rfl rfl rfl n0 ir rfl) ?_|refine zbc rfl (zyD hN 0 1016 h rfl rfl rfl rfl rfl rfl rfl rfl) ?_|refine zu (.inl ⟨rfl,zI hty rfl rfl⟩) ?_|refine zS ⟨by kernel_rfl,?_⟩|refine WL_p hty rfl rfl ?_|refine zh ?_|refine zi ?_|refine za ?_|refine zxg ?_|refine zbZ rfl ?_|refine zg ?_|refine zaC rfl rfl rfl rfl (fun _=>?_) (fun _=>?_))
  exact zAU 1014 rfl rfl rfl rfl rfl rfl rfl (.refl _)
 ·rw[decide_eq_false hq]at h
  have hv:zDs env t (0,s)=(zT,(6,s)):=by unfold zDs;rw[decide_eq_false hq];rfl
  rw[hv]
  rw[show wantW false 6 (0,s)=(false,((6:Int),s))from rfl]at h
  refine zzj hN Tryz.func180 rfl rfl rfl fun w0 B0 B1 B3=>?_
  repeat'(first|(rename_i q;exact absurd q (by omega))|refine zD (id:=1) zDc rfl (by kernel_rfl) ?_|refine zbc rfl (zyD hN 0 1016 h rfl rfl rfl rfl rfl rfl rfl rfl) ?_|refine zu (.inl ⟨rfl,zI hty rfl rfl⟩) ?_|refine zS ⟨by kernel_rfl,?_⟩|refine WL_p hty rfl rfl ?_|refine zh ?_|refine zi ?_|refine za ?_|refine zd rfl ?_|refine zg ?_|refine zaC rfl rfl rfl rfl (fun _=>?_) (fun _=>?_))
  exact zAU 1014 rfl rfl rfl rfl rfl rfl rfl (zCj _)
variable {ty:List Tm→Tm→WM σ Tm} {ctx:List Tm} {t:Tm} {s:σ} (hK:NK N) (kt:KT N nf tA tB tC ok cnt env ty t) (hc:checkT t=0) (hx: ∀ x,x∈ctx→C0 x) (hl:ctx.length≤40) (ho:ok s) (hn:cnt s+4*t.size≤4000000)
include hK kt hc hx hl ho hn
omit hN hK kt hx hl ho hn in
theorem zCD(hk:2≤kidsR t.kind):1+(kidT t 0).size+(kidT t 1).size≤t.size:=by
 have hl:=zCE hc
 cases t with
 |mk k n l=>
  simp only[Tm.kids,Tm.kind]at hl hk
  match l,hl with
  |a::b::l,_=>simp only[kidT,Tm.kids,List.getD_cons_zero,List.getD_cons_succ,Tm.size,sizes];omega
  |[],q=>simp at q;omega
  |[a],q=>simp at q;omega
omit hN hK kt hx hl ho hn in
theorem zC4(hk:3≤kidsR t.kind):1+(kidT t 0).size+(kidT t 1).size+(kidT t 2).size≤t.size:=by
 have hl:=zCE hc
 cases t with
 |mk k n l=>
  simp only[Tm.kids,Tm.kind]at hl hk
  match l,hl with
  |a::b::c::l,_=>simp only[kidT,Tm.kids,List.getD_cons_zero,List.getD_cons_succ,Tm.size,sizes];omega
  |[],q=>simp at q;omega
  |[a],q=>simp at q;omega
  |[a,b],q=>simp at q;omega
theorem zDC(hk:t.kind=4∨t.kind=7):
 MV Tryz.prog 2 181 [.ptr 3 0,sT ctx,aT t] (KS nf tA tB tC env (0,s)) (aT (zCx N ty ctx t (0,s)).1) (KS nf tA tB tC env (zCx N ty ctx t (0,s)).2):=by
 have k2:kidsR t.kind=2:=by rcases hk with q|q <;>rw[q] <;>decide
 have row0:=zCB hc (i:=0) (by omega)
 have row1:=zCB hc (i:=1) (by omega)
 have z:=zCD hc (by omega)
 have z0:=(zcH (zzT hc (i:=0) (by omega))).1
 have h1:=zCA hN (env:=env) (kt.mv ctx 0 (0,s) (by omega) fun _=>⟨hx,hl,ho,by show cnt s+_≤_;omega⟩)
 have s1:=step (Er.level kt.er ctx (kidT t 0)) (Co.level (kt.co ctx 0 (by omega))) (Po.level (kt.po ctx 0 (by omega) hx)) (0,s)
 rw[show zCx N ty ctx t (0,s)=(let r1:=zz4 ty ctx (kidT t 0) (0,s);let r2:=normW N (kidT t 0) r1.2;let r3:=zBS ctx r2.1 r2.2;let r4:=zz4 ty r3.1 (kidT t 1) r3.2;(.mk 2 (max r1.1 r4.1) [],r4.2))from rfl]
 generalize zz4 ty ctx (kidT t 0) (0,s)=r1 at h1 s1⊢
 obtain⟨a1,c1⟩:=s1
 obtain⟨o1,c1⟩:=c1 ho
 simp only at c1
 have h2:=zCs hN (env:=env) r1.2 (kidT t 0) (fun _=>⟨by omega,o1,by omega⟩)
 have s2:=step (Er.norm (N:=N) (kidT t 0)) (Co.norm hN (kidT t 0)) (Po.norm hK (kidT t 0)) r1.2
 simp only
 generalize normW N (kidT t 0) r1.2=r2 at h2 s2⊢
 obtain⟨a2,c2⟩:=s2
 obtain⟨o2,c2⟩:=c2 o1
 have h3:=zDF hN (env:=env) r2.2 ctx r2.1 (by omega)
 have s3:=step (ok:=ok) (cnt:=cnt) (Er.behind (σ:=σ) ctx r2.1) (Co.behind ctx r2.1) (Q:=fun c=>ctx.length <40∧c=ctx++[r2.1]) (fun s' q=>by
  have:=zEC (Prod.ext rfl (Prod.ext q rfl):zBS ctx r2.1 ((0:Int),s')=((zBS ctx r2.1 (0,s')).1,(0,(zBS ctx r2.1 (0,s')).2.2)))
  exact⟨this.1,this.2.1⟩) r2.2
 generalize zBS ctx r2.1 r2.2=r3 at h3 s3⊢
 obtain⟨a3,c3⟩:=s3
 obtain⟨o3,c3⟩:=c3 o2
 have h4:=zCA hN (env:=env) (kt.mv r3.1 1 r3.2 (by omega) fun q=>by
  obtain⟨q2,q3,q4⟩:=a3 q
  obtain⟨q5,q6⟩:=a2 q2
  rw[q4]
  refine⟨fun x hx2=>?_,by simp;omega,o3,by omega⟩
  rcases List.mem_append.1 hx2 with q|q
  ·exact hx x q
  ·obtain rfl:=List.mem_singleton.1 q;exact q6)
 generalize zz4 ty r3.1 (kidT t 1) r3.2=r4 at h4⊢
 have hm:max r1.1 r4.1=(if r4.1>r1.1 then r4.1 else r1.1):=by split <;>omega
 have hu:=zFe (if r4.1>r1.1 then r4.1 else r1.1)
 rw[hm]
 clear a1 a2 a3 c1 c2 c3 hx hn
 refine zzj hN Tryz.func181 rfl rfl rfl fun w0 B0 B1 B3=>?_
 repeat'(first|refine WL_m rfl (zaq hty rfl rfl rfl (by decide) row0 rfl) ?_|refine WL_m rfl (zaq hty rfl rfl rfl (by decide) row1 rfl) ?_|refine WL_m rfl (zyD hN 0 1015 h1 rfl rfl rfl rfl rfl rfl rfl rfl) ?_|refine WL_m rfl (zyD hN 1013 1023 h2 rfl rfl rfl rfl rfl rfl rfl rfl) ?_|refine WL_m rfl (zyD hN 1021 1024 h3 rfl rfl rfl rfl rfl rfl rfl rfl) ?_|refine WL_m rfl (zyD hN 1022 1032 h4 rfl rfl rfl rfl rfl rfl rfl rfl) ?_|refine WL_m rfl (zey rfl rfl rfl) ?_|refine zv 0 rfl hu rfl rfl rfl ?_|refine WL_p hty rfl rfl ?_|refine zh ?_|refine zi ?_|refine za ?_|refine zg ?_)
 exact zAU 1030 rfl rfl rfl rfl rfl rfl rfl (.refl _)
theorem zGS(hk:t.kind=5):
 MV Tryz.prog 2 182 [.ptr 3 0,sT ctx,aT t] (KS nf tA tB tC env (0,s)) (aT (zFD N ty ctx t (0,s)).1) (KS nf tA tB tC env (zFD N ty ctx t (0,s)).2):=by
 have k2:kidsR t.kind=2:=by rw[hk];decide
 have row0:=zCB hc (i:=0) (by omega)
 have row1:=zCB hc (i:=1) (by omega)
 have z:=zCD hc (by omega)
 have z0:=(zcH (zzT hc (i:=0) (by omega))).1
 have h1:=zCA hN (env:=env) (kt.mv ctx 0 (0,s) (by omega) fun _=>⟨hx,hl,ho,by show cnt s+_≤_;omega⟩)
 have s1:=step (Er.level kt.er ctx (kidT t 0)) (Co.level (kt.co ctx 0 (by omega))) (Po.level (kt.po ctx 0 (by omega) hx)) (0,s)
 rw[show zFD N ty ctx t (0,s)=(let r1:=zz4 ty ctx (kidT t 0) (0,s);let r2:=normW N (kidT t 0) r1.2;let r3:=zBS ctx r2.1 r2.2;let r4:=ty r3.1 (kidT t 1) r3.2;zCm (.mk 4 0 [r2.1,r4.1]) r4.2)from rfl]
 generalize zz4 ty ctx (kidT t 0) (0,s)=r1 at h1 s1⊢
 obtain⟨a1,c1⟩:=s1
 obtain⟨o1,c1⟩:=c1 ho
 simp only at c1
 have h2:=zCs hN (env:=env) r1.2 (kidT t 0) (fun _=>⟨by omega,o1,by omega⟩)
 have s2:=step (Er.norm (N:=N) (kidT t 0)) (Co.norm hN (kidT t 0)) (Po.norm hK (kidT t 0)) r1.2
 have sz2:=zCJ hK (kidT t 0) r1.2
 simp only
 generalize normW N (kidT t 0) r1.2=r2 at h2 s2 sz2⊢
 obtain⟨a2,c2⟩:=s2
 obtain⟨o2,c2⟩:=c2 o1
 have h3:=zDF hN (env:=env) r2.2 ctx r2.1 (by omega)
 have s3:=step (ok:=ok) (cnt:=cnt) (Er.behind (σ:=σ) ctx r2.1) (Co.behind ctx r2.1) (Q:=fun c=>ctx.length <40∧c=ctx++[r2.1]) (fun s' q=>by
  have:=zEC (Prod.ext rfl (Prod.ext q rfl):zBS ctx r2.1 ((0:Int),s')=((zBS ctx r2.1 (0,s')).1,(0,(zBS ctx r2.1 (0,s')).2.2)))
  exact⟨this.1,this.2.1⟩) r2.2
 generalize zBS ctx r2.1 r2.2=r3 at h3 s3⊢
 obtain⟨a3,c3⟩:=s3
 obtain⟨o3,c3⟩:=c3 o2
 have hctx:r3.2.1=0→(∀ x,x∈r3.1→C0 x)∧r3.1.length≤40:=fun q=>by
  obtain⟨q2,q3,q4⟩:=a3 q
  obtain⟨q5,q6⟩:=a2 q2
  rw[q4]
  refine⟨fun x hx2=>?_,by simp;omega⟩
  rcases List.mem_append.1 hx2 with q|q
  ·exact hx x q
  ·obtain rfl:=List.mem_singleton.1 q;exact q6
 have h4:=kt.mv r3.1 1 r3.2 (by omega) fun q=>⟨(hctx q).1,(hctx q).2,o3,by omega⟩
 have sz4:=kt.sz r3.1 1 r3.2 (by omega) fun q=>(hctx q).1
 generalize ty r3.1 (kidT t 1) r3.2=r4 at h4 sz4⊢
 have hnd:=(zdZ 4 [r2.1,r4.1]).args (xs:=[.int .i64 4,.lst 3 [cT r2.1,cT r4.1] true]) (.cons (.refl _) (.cons (by rw[←rs2];exact .full _ _ _) .nil))
 have h5:=zD2 hN (env:=env) r4.2 (.mk 4 0 [r2.1,r4.1]) (fun _=>by simp only[Tm.size,sizes];omega)
 generalize zCm (.mk 4 0 [r2.1,r4.1]) r4.2=r5 at h5⊢
 clear a1 a2 a3 c1 c2 c3 hx hn hctx
 refine zzj hN Tryz.func182 rfl rfl rfl fun w0 B0 B1 B3=>?_
 repeat'(first|refine WL_m rfl (zaq hty rfl rfl rfl (by decide) row0 rfl) ?_|refine zbc rfl (zaq hty rfl rfl rfl (by decide) row1 rfl) ?_|refine zD (id:=3) zES rfl (by kernel_rfl) ?_|refine WL_m rfl (zyD hN 0 1014 h1 rfl rfl rfl rfl rfl rfl rfl rfl) ?_|refine WL_m rfl (zyD hN 1012 1020 h2 rfl rfl rfl rfl rfl rfl rfl rfl) ?_|refine zbc rfl (zyD hN 1018 1027 h3 rfl rfl rfl rfl rfl rfl rfl rfl) ?_|refine zbc rfl (zyD hN 1025 1032 h4 rfl rfl rfl rfl rfl rfl rfl rfl) ?_|refine zad 0 rfl hnd rfl rfl rfl ?_|refine zbc rfl (zyD hN 1030 1035 h5 rfl rfl rfl rfl rfl rfl rfl rfl) ?_|refine zu (.inl ⟨rfl,zI hty rfl rfl⟩) ?_|refine zS ⟨by kernel_rfl,?_⟩|refine WL_p hty rfl rfl ?_|refine zh ?_|refine zi ?_|refine za ?_|refine zg ?_)
 exact zAU 1033 rfl rfl rfl rfl rfl rfl rfl (.refl _)
set_option maxHeartbeats 2000000 in
theorem zGv(hk:t.kind=6):
 MV Tryz.prog 2 183 [.ptr 3 0,sT ctx,aT t] (KS nf tA tB tC env (0,s)) (aT (appW N ty ctx t (0,s)).1) (KS nf tA tB tC env (appW N ty ctx t (0,s)).2):=by
 have _:=hK
 have k2:kidsR t.kind=2:=by rw[hk];decide
 have row0:=zCB hc (i:=0) (by omega)
 have row1:=zCB hc (i:=1) (by omega)
 have z:=zCD hc (by omega)
 have z1:=(zcH (zzT hc (i:=1) (by omega))).1
 have h1:=kt.mv ctx 0 (0,s) (by omega) fun _=>⟨hx,hl,ho,by show cnt s+_≤_;omega⟩
 have s1:=step (kt.er ctx (kidT t 0)) (kt.co ctx 0 (by omega)) (kt.po ctx 0 (by omega) hx) (0,s)
 rw[show appW N ty ctx t (0,s)=(let r1:=ty ctx (kidT t 0) (0,s);zBh (decide (r1.1.kind=4)) 8 (zyN (ofW ty ctx (kidT t 1) (kidT r1.1 0)) fun ok=>if ok=true then instW N (kidT r1.1 1) (kidT t 1)else zzZ zT) r1.2)from rfl]
 generalize ty ctx (kidT t 0) (0,s)=r1 at h1 s1⊢
 obtain⟨a1,c1⟩:=s1
 obtain⟨o1,c1⟩:=c1 ho
 obtain⟨x1,e1,s1⟩:=r1
 dsimp only at a1 o1 c1 h1⊢
 have h2:=zBV hN (env:=env) (e1,s1) (decide (x1.kind=4)) 8 (fun _=>by decide)
 by_cases hg:e1=0∧x1.kind=4
 ·obtain⟨g0,g4⟩:=hg
  obtain⟨_,cf⟩:=a1 g0
  have kf:kidsR x1.kind=2:=by rw[g4];decide
  have f0:=zCB cf (i:=0) (by omega)
  have f1:=zCB cf (i:=1) (by omega)
  have zf0:=(zcH (zzT cf (i:=0) (by omega))).1
  have zf1:=(zcH (zzT cf (i:=1) (by omega))).1
  subst g0
  rw[decide_eq_true g4]at h2⊢
  rw[show wantW true 8 ((0:Int),s1)=(true,(0,s1))from rfl]at h2
  rw[show ∀ m:WM σ Tm,zBh true 8 m ((0:Int),s1)=m (0,s1)from fun _=>rfl]
  have sz:=kt.sz ctx 1 ((0:Int),s1) (by omega) (fun _=>hx)
  have h3:=zDg hN (env:=env) (u:=kidT x1 0) (by omega) (kt.mv ctx 1 ((0:Int),s1) (by omega) fun _=>⟨hx,hl,o1,by show cnt s1+_≤_;omega⟩)
  have s3:=step (Er.of kt.er ctx (kidT t 1) (kidT x1 0)) (Co.of (kt.co ctx 1 (by omega))) (Po.of (typ:=kidT x1 0) (kt.po ctx 1 (by omega) hx)) ((0:Int),s1)
  have hb:(ofW ty ctx (kidT t 1) (kidT x1 0) ((0:Int),s1)).1=true→(ofW ty ctx (kidT t 1) (kidT x1 0) ((0:Int),s1)).2.1=0:=by
   intro q
   simp only[ofW,zyN,okW,wantW]at q⊢
   split at q
   ·cases q
   ·rename_i q0
    rw[if_neg q0]
    split at q
    ·cases q
    ·rename_i q1;rw[if_neg q1];exact of_decide_eq_true q
  rw[show zyN (ofW ty ctx (kidT t 1) (kidT x1 0)) (fun ok=>if ok=true then instW N (kidT x1 1) (kidT t 1)else zzZ zT) ((0:Int),s1)=(let r3:=ofW ty ctx (kidT t 1) (kidT x1 0) ((0:Int),s1);(if r3.1=true then instW N (kidT x1 1) (kidT t 1)else zzZ zT) r3.2)from rfl]
  generalize ofW ty ctx (kidT t 1) (kidT x1 0) ((0:Int),s1)=r3 at h3 s3 hb⊢
  obtain⟨a3,c3⟩:=s3
  obtain⟨o3,c3⟩:=c3 o1
  simp only at c3 c1⊢
  have h4:=zDx hN (env:=env) r3.2 (kidT x1 1) (kidT t 1) (fun _=>⟨by omega,by omega,o3,by omega⟩)
  obtain⟨b3,w3⟩:=r3
  cases b3
  ·rw[show(if(false,w3).1=true then instW N (kidT x1 1) (kidT t 1)else zzZ zT) (false,w3).2=(zT,w3)from rfl]
   clear a1 a3 c1 c3 hx hn hb h4
   refine zzj hN Tryz.func183 rfl rfl rfl fun w0 B0 B1 B3=>?_
   repeat'(first|exact absurd g4 ‹_›|refine WL_m rfl (zaq hty rfl rfl rfl (by decide) row0 rfl) ?_|refine zbc rfl (zaq hty rfl rfl rfl (by decide) row1 rfl) ?_|refine zbc rfl (zaq hty rfl rfl rfl (by decide) f0 rfl) ?_|refine zD (id:=2) zCH rfl (by kernel_rfl) ?_|refine WL_m rfl (zyD hN 0 1014 h1 rfl rfl rfl rfl rfl rfl rfl rfl) ?_|refine zbc rfl (zyD hN 1012 1019 h2 rfl rfl rfl rfl rfl rfl rfl rfl) ?_|refine zbc rfl (zyD hN 1017 1032 h3 rfl rfl rfl rfl rfl rfl rfl rfl) ?_|refine zu (.inl ⟨rfl,zI hty rfl rfl⟩) ?_|refine zaG rfl rfl ?_|refine zS ⟨by kernel_rfl,?_⟩|refine WL_p hty rfl rfl ?_|refine zh ?_|refine zi ?_|refine za ?_|refine zd rfl ?_|refine zg ?_|refine zaC rfl rfl rfl rfl (fun _=>?_) (fun _=>?_))
   exact zAU 1030 rfl rfl rfl rfl rfl rfl rfl (zCj _)
  ·rw[show(if(true,w3).1=true then instW N (kidT x1 1) (kidT t 1)else zzZ zT) (true,w3).2=instW N (kidT x1 1) (kidT t 1) w3 from rfl]
   simp only at h4
   generalize instW N (kidT x1 1) (kidT t 1) w3=r4 at h4⊢
   clear a1 a3 c1 c3 hx hn hb
   refine zzj hN Tryz.func183 rfl rfl rfl fun w0 B0 B1 B3=>?_
   repeat'(first|exact absurd g4 ‹_›|refine WL_m rfl (zaq hty rfl rfl rfl (by decide) row0 rfl) ?_|refine zbc rfl (zaq hty rfl rfl rfl (by decide) row1 rfl) ?_|refine zbc rfl (zaq hty rfl rfl rfl (by decide) f0 rfl) ?_|refine zbc rfl (zaq hty rfl rfl rfl (by decide) f1 rfl) ?_|refine zD (id:=2) zCH rfl (by kernel_rfl) ?_|refine zD (id:=4) zEt rfl (by kernel_rfl) ?_|refine WL_m rfl (zyD hN 0 1014 h1 rfl rfl rfl rfl rfl rfl rfl rfl) ?_|refine zbc rfl (zyD hN 1012 1019 h2 rfl rfl rfl rfl rfl rfl rfl rfl) ?_|refine zbc rfl (zyD hN 1017 1032 h3 rfl rfl rfl rfl rfl rfl rfl rfl) ?_|refine zbc rfl (zyD hN 1030 1045 h4 rfl rfl rfl rfl rfl rfl rfl rfl) ?_|refine zu (.inl ⟨rfl,zI hty rfl rfl⟩) ?_|refine zaG rfl rfl ?_|refine zS ⟨by kernel_rfl,?_⟩|refine WL_p hty rfl rfl ?_|refine zh ?_|refine zi ?_|refine za ?_|refine zxg ?_|refine zbZ rfl ?_|refine zg ?_|refine zaC rfl rfl rfl rfl (fun _=>?_) (fun _=>?_))
   exact zAU 1043 rfl rfl rfl rfl rfl rfl rfl (.refl _)
 ·have hw:(wantW (decide (x1.kind=4)) 8 (e1,s1)).1=false:=by
   unfold wantW
   split
   ·rfl
   ·rename_i q
    refine decide_eq_false fun q0=>hg ⟨q0,?_⟩
    exact Classical.byContradiction fun q4=>q ⟨q0,decide_eq_false q4⟩
  rw[show ∀ m:WM σ Tm,zBh (decide (x1.kind=4)) 8 m (e1,s1)=(zT,(wantW (decide (x1.kind=4)) 8 (e1,s1)).2)from fun m=>by unfold zBh zyN;rw[hw];rfl]
  rw[hw]at h2
  generalize (wantW (decide (x1.kind=4)) 8 (e1,s1)).2=w2 at h2⊢
  clear a1 c1 hx hn hg hw
  by_cases g4:x1.kind=4
  ·rw[decide_eq_true g4]at h2
   refine zzj hN Tryz.func183 rfl rfl rfl fun w0 B0 B1 B3=>?_
   repeat'(first|exact absurd g4 ‹_›|refine WL_m rfl (zaq hty rfl rfl rfl (by decide) row0 rfl) ?_|refine zD (id:=2) zCH rfl (by kernel_rfl) ?_|refine WL_m rfl (zyD hN 0 1014 h1 rfl rfl rfl rfl rfl rfl rfl rfl) ?_|refine zbc rfl (zyD hN 1012 1019 h2 rfl rfl rfl rfl rfl rfl rfl rfl) ?_|refine zu (.inl ⟨rfl,zI hty rfl rfl⟩) ?_|refine zav rfl rfl rfl ?_|refine zS ⟨by kernel_rfl,?_⟩|refine WL_p hty rfl rfl ?_|refine zh ?_|refine zi ?_|refine za ?_|refine zd rfl ?_|refine zg ?_|refine zaC rfl rfl rfl rfl (fun _=>?_) (fun _=>?_))
   exact zAU 1017 rfl rfl rfl rfl rfl rfl rfl (zCj _)
  ·rw[decide_eq_false g4]at h2
   refine zzj hN Tryz.func183 rfl rfl rfl fun w0 B0 B1 B3=>?_
   repeat'(first|exact absurd (by assumption) g4|refine WL_m rfl (zaq hty rfl rfl rfl (by decide) row0 rfl) ?_|refine zD (id:=2) zCH rfl (by kernel_rfl) ?_|refine WL_m rfl (zyD hN 0 1014 h1 rfl rfl rfl rfl rfl rfl rfl rfl) ?_|refine zbc rfl (zyD hN 1012 1019 h2 rfl rfl rfl rfl rfl rfl rfl rfl) ?_|refine zu (.inl ⟨rfl,zI hty rfl rfl⟩) ?_|refine zav rfl rfl rfl ?_|refine zS ⟨by kernel_rfl,?_⟩|refine WL_p hty rfl rfl ?_|refine zh ?_|refine zi ?_|refine za ?_|refine zd rfl ?_|refine zg ?_|refine zaC rfl rfl rfl rfl (fun _=>?_) (fun _=>?_))
   exact zAU 1017 rfl rfl rfl rfl rfl rfl rfl (zCj _)
end
end Go.Proofs.YtokfbblhjpfjkaaGreat
