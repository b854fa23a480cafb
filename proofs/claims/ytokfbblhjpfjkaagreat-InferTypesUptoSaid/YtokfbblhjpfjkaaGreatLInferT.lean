/- Types worked out deeper than need be are the same; what is no function, no pair, -/
import Derived.Test.YtokfbblhjpfjkaaGreatLInferB
import Derived.Test.YtokfbblhjpfjkaaGreatLInferF
set_option linter.unusedSimpArgs false
set_option linter.unusedVariables false
namespace Go.Proofs.YtokfbblhjpfjkaaGreat
open Go.Aw Go.RowKit
section
variable {σ α β:Type}
theorem zDM{m:WM σ α}{f:α→WM σ β}{w:WS σ}(h:(m w).2.1≠0)(hf: ∀ a,Er (f a)):(zyN m f w).2=(m w).2:=hf _ (m w).2.1 (m w).2.2 h
theorem zCV{m:WM σ α}{f:α→WM σ β}{w w':WS σ}{a:α}(h:m w=(a,w')):zyN m f w=f a w':=by unfold zyN;rw[h]
theorem zEi{er:Int}{s:σ}:wantW false er (0,s)=(false,(er,s)):=by unfold wantW;rw[if_pos ⟨rfl,rfl⟩]
theorem zDD{er:Int}{s:σ}:wantW true er (0,s)=(true,(0,s)):=by unfold wantW;rw[if_neg (fun q=>by cases q.2)];rfl
theorem zFj{er:Int}{m:WM σ Tm}{s:σ}(h:er≠0):zBh false er m (0,s)=(zT,(er,s)):=by unfold zBh;rw[zCV zEi];rfl
theorem zHK{er:Int}{m:WM σ Tm}{s:σ}:zBh true er m (0,s)=m (0,s):=by unfold zBh;rw[zCV zDD];rfl
theorem zDh{z:α}{m:WM σ α}{s:σ}:okW z m (0,s)=m (0,s):=by unfold okW;rw[if_neg (by simp)]
end
section
variable {σ:Type} {N:σ→Tm→Tm×Int×σ} {env:List En} {ctx:List Tm} {t:Tm}
theorem zEs{ty ty':List Tm→Tm→WM σ Tm}(ht:checkT t=0)(h: ∀ (c:List Tm) (i:Nat),(i:Int) <kidsR t.kind→ty c (kidT t i)=ty' c (kidT t i)):zCt N env ty ctx t=zCt N env ty' ctx t:=by
 unfold zCt
 by_cases k1:t.kind=1
 ·rw[if_pos k1,if_pos k1]
 rw[if_neg k1,if_neg k1]
 by_cases k2:t.kind=2
 ·rw[if_pos k2,if_pos k2]
 rw[if_neg k2,if_neg k2]
 by_cases k3:t.kind=3
 ·rw[if_pos k3,if_pos k3]
 rw[if_neg k3,if_neg k3]
 by_cases k4:t.kind=4
 ·rw[if_pos k4,if_pos k4]
  have h0:=fun c=>h c 0 (by rw[k4];decide)
  have h1:=fun c=>h c 1 (by rw[k4];decide)
  simp only[zCx,zz4,h0,h1]
 rw[if_neg k4,if_neg k4]
 by_cases k5:t.kind=5
 ·rw[if_pos k5,if_pos k5]
  have h0:=fun c=>h c 0 (by rw[k5];decide)
  have h1:=fun c=>h c 1 (by rw[k5];decide)
  simp only[zFD,zz4,h0,h1]
 rw[if_neg k5,if_neg k5]
 by_cases k6:t.kind=6
 ·rw[if_pos k6,if_pos k6]
  have h0:=fun c=>h c 0 (by rw[k6];decide)
  have h1:=fun c=>h c 1 (by rw[k6];decide)
  simp only[appW,ofW,h0,h1]
 rw[if_neg k6,if_neg k6]
 by_cases k7:t.kind=7
 ·rw[if_pos k7,if_pos k7]
  have h0:=fun c=>h c 0 (by rw[k7];decide)
  have h1:=fun c=>h c 1 (by rw[k7];decide)
  simp only[zCx,zz4,h0,h1]
 rw[if_neg k7,if_neg k7]
 by_cases k8:t.kind=8
 ·rw[if_pos k8,if_pos k8]
  have h0:=fun c=>h c 0 (by rw[k8];decide)
  have h1:=fun c=>h c 1 (by rw[k8];decide)
  have h2:=fun c=>h c 2 (by rw[k8];decide)
  simp only[zE2,ofW,zz4,h0,h1,h2]
 rw[if_neg k8,if_neg k8]
 by_cases k9:t.kind=9
 ·rw[if_pos k9,if_pos k9]
  have h0:=fun c=>h c 0 (by rw[k9];decide)
  simp only[zF9,zEZ,h0]
 rw[if_neg k9,if_neg k9]
 by_cases k10:t.kind=10
 ·rw[if_pos k10,if_pos k10]
  have h0:=fun c=>h c 0 (by rw[k10];decide)
  simp only[zGa,zEZ,h0]
 rw[if_neg k10,if_neg k10]
 by_cases k11:t.kind=11
 ·rw[if_pos k11,if_pos k11]
  have h0:=fun c=>h c 0 (by rw[k11];decide)
  have h1:=fun c=>h c 1 (by rw[k11];decide)
  have h2:=fun c=>h c 2 (by rw[k11];decide)
  simp only[idW,ofW,zz4,h0,h1,h2]
 rw[if_neg k11,if_neg k11]
 by_cases k12:t.kind=12
 ·rw[if_pos k12,if_pos k12]
  have h0:=fun c=>h c 0 (by rw[k12];decide)
  have h1:=fun c=>h c 1 (by rw[k12];decide)
  simp only[zDr,ofW,zz4,h0,h1]
 rw[if_neg k12,if_neg k12]
 have hk13:t.kind=13:=by
  have hl:=zCE ht
  unfold kidsR at hl
  repeat'(split at hl)
  all_goals omega
 have h0:=fun c=>h c 0 (by rw[hk13];decide)
 have h1:=fun c=>h c 1 (by rw[hk13];decide)
 have h2:=fun c=>h c 2 (by rw[hk13];decide)
 simp only[zGd,h0,h1,h2]
end
section
variable {σ:Type} {N:σ→Tm→Tm×Int×σ} {env:List En}
theorem zGI: ∀ (n m:Nat) (ctx:List Tm) (t:Tm),checkT t=0→t.size≤n→t.size≤m→typW N env n ctx t=typW N env m ctx t:=by
 intro n
 induction n with
 |zero=>intro m ctx t _ h;have:=t.size_pos;omega
 |succ n ih=>
  intro m ctx t ht h1 h2
  cases m with
  |zero=>have:=t.size_pos;omega
  |succ m=>
   show okW zT (zCt N env (typW N env n) ctx t)=okW zT (zCt N env (typW N env m) ctx t)
   rw[zEs ht fun c i hi=>ih m c _ (zzT ht hi) (zCk ht hi h1) (zCk ht hi h2)]
theorem zCI{ctx:List Tm}{t:Tm}(ht:checkT t=0):typW N env t.size ctx t=okW zT (zCt N env (fun c u=>typW N env u.size c u) ctx t):=by
 obtain⟨n,hn⟩: ∃ n,t.size=n+1:=⟨t.size-1,by have:=t.size_pos;omega⟩
 rw[hn]
 show okW zT (zCt N env (typW N env n) ctx t)=_
 rw[zEs (ty':=fun c u=>typW N env u.size c u) ht fun c i hi=>zGI n (kidT t i).size c _ (zzT ht hi) (zCk ht hi (by omega)) (Nat.le_refl _)]
abbrev tyW(N:σ→Tm→Tm×Int×σ)(env:List En)(ctx:List Tm)(t:Tm):WM σ Tm:=typW N env t.size ctx t
theorem Er.ty(N:σ→Tm→Tm×Int×σ)(env:List En)(c:List Tm)(t:Tm):Er (tyW N env c t):=Er.typ N env t.size c t
theorem Er.kd{c:List Tm}{t:Tm}:Er (okW zT (zCt N env (tyW N env) c t)):=.ok _ _
theorem zFs{ctx:List Tm}{t x:Tm}{s s':σ}(hx:tyW N env ctx t (0,s)=(x,(0,s')))(hk:x.kind≠2):(zz4 (tyW N env) ctx t (0,s)).2=(8,s'):=by
 unfold zz4
 rw[zCV hx,decide_eq_false hk,zDM (by rw[zEi];exact(by decide:(8:Int)≠0)) (fun _=>.pure _),zEi]
theorem zHC{ctx:List Tm}{t x:Tm}{s s':σ}(hx:tyW N env ctx t (0,s)=(x,(0,s')))(hk:x.kind=2):zz4 (tyW N env) ctx t (0,s)=(x.num,(0,s')):=by
 unfold zz4
 rw[zCV hx,decide_eq_true hk,zCV zDD];rfl
theorem zHT{ctx:List Tm}{t a x:Tm}{s s':σ}(hc:checkT (.mk 6 0 [t,a])=0)(hx:tyW N env ctx t (0,s)=(x,(0,s')))(hk:x.kind≠4):(tyW N env ctx (.mk 6 0 [t,a]) (0,s)).2=(8,s'):=by
 unfold tyW
 rw[zCI hc,zDh]
 show(appW N (tyW N env) ctx (.mk 6 0 [t,a]) (0,s)).2=_
 unfold appW
 rw[zCV (show tyW N env ctx (kidT (.mk 6 0 [t,a]) 0) (0,s)=_ from hx),decide_eq_false hk,zFj (by decide)]
theorem zH1{ctx:List Tm}{t x:Tm}{s s':σ}(hc:checkT (.mk 9 0 [t])=0)(hx:tyW N env ctx t (0,s)=(x,(0,s')))(hk:x.kind≠7):(tyW N env ctx (.mk 9 0 [t]) (0,s)).2=(8,s'):=by
 unfold tyW
 rw[zCI hc,zDh]
 show(zF9 (tyW N env) ctx (.mk 9 0 [t]) (0,s)).2=_
 unfold zF9 zEZ
 rw[zCV (show tyW N env ctx (kidT (.mk 9 0 [t]) 0) (0,s)=_ from hx),decide_eq_false hk,zFj (by decide)]
theorem zH0{ctx:List Tm}{t x:Tm}{s s':σ}(hc:checkT (.mk 10 0 [t])=0)(hx:tyW N env ctx t (0,s)=(x,(0,s')))(hk:x.kind≠7):(tyW N env ctx (.mk 10 0 [t]) (0,s)).2=(8,s'):=by
 unfold tyW
 rw[zCI hc,zDh]
 show(zGa N (tyW N env) ctx (.mk 10 0 [t]) (0,s)).2=_
 unfold zGa zEZ
 rw[zCV (show tyW N env ctx (kidT (.mk 10 0 [t]) 0) (0,s)=_ from hx),decide_eq_false hk,zFj (by decide)]
theorem zHS{ctx:List Tm}{t a x:Tm}{s s':σ}(hc:checkT (.mk 5 0 [t,a])=0)(hx:tyW N env ctx t (0,s)=(x,(0,s')))(hk:x.kind≠2):(tyW N env ctx (.mk 5 0 [t,a]) (0,s)).2=(8,s'):=by
 unfold tyW
 rw[zCI hc,zDh]
 show(zFD N (tyW N env) ctx (.mk 5 0 [t,a]) (0,s)).2=_
 have h:=zFs hx hk
 unfold zFD
 rw[zDM (show(zz4 (tyW N env) ctx (kidT (.mk 5 0 [t,a]) 0) (0,s)).2.1≠0 by
  show(zz4 (tyW N env) ctx t (0,s)).2.1≠0
  rw[h];exact(by decide:(8:Int)≠0)) fun _=>.bind (.norm _ _) fun _=>.bind (.behind _ _) fun _=>.bind (.ty N env _ _) fun _=>.right _]
 exact h
theorem zHP{ctx:List Tm}{t a x:Tm}{s s':σ}(hc:checkT (.mk 12 0 [t,a])=0)(hx:tyW N env ctx t (0,s)=(x,(0,s')))(hk:x.kind≠2):(tyW N env ctx (.mk 12 0 [t,a]) (0,s)).2=(8,s'):=by
 unfold tyW
 rw[zCI hc,zDh]
 show(zDr N (tyW N env) ctx (.mk 12 0 [t,a]) (0,s)).2=_
 have h:=zFs hx hk
 unfold zDr
 rw[zDM (show(zz4 (tyW N env) ctx (kidT (.mk 12 0 [t,a]) 0) (0,s)).2.1≠0 by
  show(zz4 (tyW N env) ctx t (0,s)).2.1≠0
  rw[h];exact(by decide:(8:Int)≠0)) fun _=>.bind (.norm _ _) fun _=>.bind (.of (Er.ty N env) _ _ _) fun _=>.bind (.norm _ _) fun _=>.right _]
 exact h
end
end Go.Proofs.YtokfbblhjpfjkaaGreat
