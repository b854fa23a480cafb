/- What types are worked out to is small, with an error or without. -/
import Derived.Test.YtokfbblhjpfjkaaGreatLInferC
set_option linter.unusedSimpArgs false
set_option linter.unusedVariables false
namespace Go.Proofs.YtokfbblhjpfjkaaGreat
open Go.Aw Go.RowKit
section
variable {σ α:Type}
theorem zCi{m:WM σ α}{f:α→WM σ Tm}{Q R:α→Prop}{e:Int}{s:σ}(h1:Po m Q)(h2: ∀ w,R (m w).1)(he:Er m)(hf: ∀ a,R a→ ∀ e' s',(e'=0→e=0∧Q a)→(f a (e',s')).1.size≤20000):(zyN m f (e,s)).1.size≤20000:=by
 show(f (m (e,s)).1 (m (e,s)).2).1.size≤20000
 by_cases h:e=0
 ·subst h
  exact hf _ (h2 _) (m (0,s)).2.1 (m (0,s)).2.2 fun q=>⟨rfl,h1 s q⟩
 ·rw[he e s h]
  exact hf _ (h2 _) e s fun q=>absurd q h
theorem zGM:zT.size≤20000:=by decide
theorem zGo{m:WM σ Tm}{w:WS σ}(h:w.1=0→(m w).1.size≤20000):(okW zT m w).1.size≤20000:=by
 unfold okW
 by_cases q:w.1=0
 ·rw[if_neg (by omega)];exact h q
 ·rw[if_pos q];exact zGM
theorem zG5(r:Tm×Int)(w:WS σ):(gotW r w).1=r.1:=rfl
theorem zCJ{N:σ→Tm→Tm×Int×σ}(hN:NK N)(t:Tm)(w:WS σ):(normW N t w).1.size≤6000:=by
 unfold normW okW
 by_cases q:w.1=0
 ·rw[if_neg (by omega)];exact hN.size _ _
 ·rw[if_pos q];exact(by decide:zT.size≤6000)
theorem zFh{N:σ→Tm→Tm×Int×σ}(hN:NK N)(b a:Tm)(w:WS σ):(instW N b a w).1.size≤6000:=by
 unfold instW okW
 by_cases q:w.1=0
 ·rw[if_neg (by omega)];exact zCJ hN _ _
 ·rw[if_pos q];exact(by decide:zT.size≤6000)
theorem zGN(t:Tm)(b f:Int):(zbs t b f).1.size≤6000:=by
 by_cases h:(zbs t b f).2=0
 ·exact(zcH (zDf h)).1
 ·have:(zbs t b f).1=zT:=by
   unfold zbs at h⊢
   repeat'(split at h)
   all_goals first
    |exact absurd rfl h
    |simp_all
  rw[this];decide
theorem zDJ(t:Tm)(b:Int)(w:WS σ):(zAz t b w).1.size≤6000:=by
 unfold zAz okW
 by_cases q:w.1=0
 ·rw[if_neg (by omega)];exact zGN _ _ _
 ·rw[if_pos q];exact(by decide:zT.size≤6000)
theorem zCW{b:Bool}{er:Int}{m:WM σ Tm}{e:Int}{s:σ}(her:er≠0)(h:b=true→e=0→(m (e,s)).1.size≤20000):(zBh b er m (e,s)).1.size≤20000:=by
 unfold zBh zyN wantW
 by_cases he:e=0
 ·subst he
  cases b
  ·rw[if_pos ⟨rfl,rfl⟩];exact zGM
  ·rw[if_neg (fun q=>by cases q.2)];exact h rfl rfl
 ·rw[if_neg (fun q=>he q.1)]
  rw[show decide ((e,s).1=0)=false from decide_eq_false he]
  exact zGM
end
section
variable {σ:Type} {N:σ→Tm→Tm×Int×σ} {env:List En} (hN:NK N) (hE: ∀ e,e∈env→C0 e.typ)
include hN hE
theorem zDX: ∀ (n:Nat) (ctx:List Tm) (t:Tm) (w:WS σ),t.size≤n→(w.1=0→ ∀ x,x∈ctx→C0 x)→C0 t→(typW N env n ctx t w).1.size≤20000:=by
 intro n ctx t w hn hc ht
 obtain⟨e,s⟩:=w
 cases n with
 |zero=>have:=t.size_pos;omega
 |succ n=>
 have hEr:=Er.typ N env n
 have kid: ∀ {i:Nat} {c:List Tm},(i:Int) <kidsR t.kind→(∀ x,x∈c→C0 x)→Po (typW N env n c (kidT t i)) C0:=fun hi hc=>Po.typ hN hE n _ _ (zCk ht hi hn) hc (zzT ht hi)
 generalize hty:typW N env n=ty at hEr kid
 show(okW zT (zCt N env (typW N env n) ctx t) (e,s)).1.size≤20000
 rw[hty]
 refine zGo fun h0=>?_
 obtain rfl:e=0:=h0
 have hc:=hc rfl
 have one: ∀ {k n:Int},(Tm.mk k n []).size≤20000:=fun{k n}=>by simp[Tm.size,sizes]
 have bnd:(zCx N ty ctx t (0,s)).1.size≤20000:=one
 unfold zCt
 by_cases k1:t.kind=1
 ·rw[if_pos k1]
  exact zCW (by omega) fun _ _=>Nat.le_trans (zDJ _ _ _) (by omega)
 rw[if_neg k1]
 by_cases k2:t.kind=2
 ·rw[if_pos k2];exact one
 rw[if_neg k2]
 by_cases k3:t.kind=3
 ·rw[if_pos k3]
  refine zCW (by omega) fun q _=>?_
  show(match env[t.num.toNat]? with|some e=>e.typ|none=>zT).size≤20000
  split
  ·rename_i x hx
   have:=(zcH (hE x (List.mem_of_getElem? hx))).1
   omega
  ·exact zGM
 rw[if_neg k3]
 by_cases k4:t.kind=4
 ·rw[if_pos k4];exact bnd
 rw[if_neg k4]
 by_cases k5:t.kind=5
 ·rw[if_pos k5]
  have hk:(1:Int) <kidsR t.kind:=by rw[k5];decide
  refine zCi (R:=fun _=>True) (.level (kid (i:=0) (by omega) hc)) (fun _=>trivial) (.level hEr _ _) fun _ _ e1 s1 h1=>?_
  refine zCi (R:=fun u=>u.size≤6000) (.norm hN _) (zCJ hN _) (.norm _ _) fun a ha e2 s2 h2=>?_
  refine zCi (Q:=fun c=>(∀ x,x∈ctx→C0 x)∧(C0 a→ ∀ x,x∈c→C0 x)) (R:=fun _=>True) (fun s q=>⟨hc,fun ha=>(Po.behind hc ha s q).1⟩) (fun _=>trivial) (.behind _ _) fun c _ e3 s3 h3=>?_
  show(zyN (ty c (kidT t 1)) (fun b=>zCm (.mk 4 0 [a,b])) (e3,s3)).1.size≤20000
  show(zCm (.mk 4 0 [a,(ty c (kidT t 1) (e3,s3)).1]) (ty c (kidT t 1) (e3,s3)).2).1.size≤20000
  refine zGo fun hz=>?_
  rw[zG5]
  have he3:e3=0:=by
   by_cases q:e3=0
   ·exact q
   ·rw[hEr _ _ _ _ q]at hz;exact hz
  subst he3
  have hb:=kid (i:=1) hk ((h3 rfl).2.2 (h2 (h3 rfl).1).2) s3 hz
  have:=(zcH hb).1
  have:=(zcH (h2 (h3 rfl).1).2).1
  simp only[Tm.size,sizes];omega
 rw[if_neg k5]
 by_cases k6:t.kind=6
 ·rw[if_pos k6]
  have hk:(1:Int) <kidsR t.kind:=by rw[k6];decide
  refine zCi (R:=fun _=>True) (kid (i:=0) (by omega) hc) (fun _=>trivial) (hEr _ _) fun f _ e1 s1 h1=>zCW (by omega) fun _ _=>?_
  show(if(ofW ty ctx (kidT t 1) (kidT f 0) (e1,s1)).1=true then instW N (kidT f 1) (kidT t 1)else zzZ zT:WM σ Tm) _ |>.1.size≤20000
  split
  ·exact Nat.le_trans (zFh hN _ _ _) (by omega)
  ·exact zGM
 rw[if_neg k6]
 by_cases k7:t.kind=7
 ·rw[if_pos k7];exact bnd
 rw[if_neg k7]
 by_cases k8:t.kind=8
 ·rw[if_pos k8]
  have hk:(2:Int) <kidsR t.kind:=by rw[k8];decide
  refine zCi (R:=fun _=>True) (.level (kid (i:=0) (by omega) hc)) (fun _=>trivial) (.level hEr _ _) fun _ _ e1 s1 h1=>?_
  refine zCi (R:=fun u=>u.size≤6000) (.norm hN _) (zCJ hN _) (.norm _ _) fun a ha e2 s2 h2=>zCW (by omega) fun _ _=>?_
  show(if(ofW ty ctx (kidT t 1) (kidT a 0) (e2,s2)).1=true then _ else zzZ zT:WM σ Tm) _ |>.1.size≤20000
  split
  ·exact Nat.le_trans ha (by omega)
  ·exact zGM
 rw[if_neg k8]
 by_cases k9:t.kind=9
 ·rw[if_pos k9]
  refine zCi (R:=fun _=>True) (kid (i:=0) (by rw[k9];decide) hc) (fun _=>trivial) (hEr _ _) fun f _ e1 s1 h1=>zCW (by omega) fun q q0=>?_
  have:=(zcH (zzT (h1 q0).2 (i:=0) (by rw[of_decide_eq_true q];decide))).1
  show(kidT f 0).size≤20000
  omega
 rw[if_neg k9]
 by_cases k10:t.kind=10
 ·rw[if_pos k10]
  exact zCi (R:=fun _=>True) (kid (i:=0) (by rw[k10];decide) hc) (fun _=>trivial) (hEr _ _) fun f _ e1 s1 h1=>zCW (by omega) fun q q0=>Nat.le_trans (zFh hN _ _ _) (by omega)
 rw[if_neg k10]
 by_cases k11:t.kind=11
 ·rw[if_pos k11];exact one
 rw[if_neg k11]
 by_cases k12:t.kind=12
 ·rw[if_pos k12]
  have hk:(1:Int) <kidsR t.kind:=by rw[k12];decide
  refine zCi (R:=fun _=>True) (.level (kid (i:=0) (by omega) hc)) (fun _=>trivial) (.level hEr _ _) fun _ _ e1 s1 h1=>?_
  refine zCi (R:=fun u=>u.size≤6000) (.norm hN _) (zCJ hN _) (.norm _ _) fun a ha e2 s2 h2=>?_
  refine zCi (R:=fun _=>True) (.of (kid (i:=1) hk hc)) (fun _=>trivial) (.of hEr _ _ _) fun _ _ e3 s3 h3=>?_
  refine zCi (R:=fun u=>u.size≤6000) (.norm hN _) (zCJ hN _) (.norm _ _) fun x hx e4 s4 h4=>zGo fun _=>?_
  rw[zG5]
  simp only[Tm.size,sizes];omega
 rw[if_neg k12]
 have hk13:t.kind=13:=by
  have hf:=za9 t
  rw[(zcH ht).2.2]at hf
  have hf:=hf.symm
  rw[Bool.and_eq_true,Bool.and_eq_true]at hf
  have hl:=of_decide_eq_true hf.1.1
  unfold kidsR at hl
  repeat'(split at hl)
  all_goals omega
 have hk:(2:Int) <kidsR t.kind:=by rw[hk13];decide
 refine zCi (R:=fun _=>True) (kid (i:=2) hk hc) (fun _=>trivial) (hEr _ _) fun p _ e1 s1 h1=>zCW (by omega) fun _ _=>?_
 refine zCi (R:=fun _=>True) (.shift _ _) (fun _=>trivial) (.shift _ _) fun one _ e2 s2 h2=>?_
 refine zCi (R:=fun _=>True) (.shift _ _) (fun _=>trivial) (.shift _ _) fun two _ e3 s3 h3=>?_
 refine zCi (R:=fun _=>True) (kid (i:=0) (by omega) hc) (fun _=>trivial) (hEr _ _) fun c _ e4 s4 h4=>zGo fun _=>zCW (by omega) fun _ _=>?_
 exact Nat.le_trans (zCJ hN _ _) (by omega)
end
end Go.Proofs.YtokfbblhjpfjkaaGreat
