/- What a step of the walk leaves: the tank's state, how often terms were made norm -/
import Derived.Test.YtokfbblhjpfjkaaGreatLWalkA
import Derived.Test.YtokfbblhjpfjkaaGreatLInferV
set_option linter.unusedSimpArgs false
set_option linter.unusedVariables false
namespace Go.Proofs.YtokfbblhjpfjkaaGreat
open Go.Aw Go.RowKit
def zDe:List (Nat×List Nat):=[(0,[100000,100001,100002,100003,101012,101018]),(1,[]),(2,[]),(3,[2]),(4,[2,3]),(5,[1,2,3,4]),(6,[0,1,2,3,4,5]),(7,[0,1,2,3,4,5,6])]
def Co{σ α:Type}(ok:σ→Prop)(cnt:σ→Nat)(m:WM σ α)(k:Nat):Prop:= ∀ w,ok w.2→ok (m w).2.2∧cnt (m w).2.2≤cnt w.2+k
section
variable {σ α β:Type} {ok:σ→Prop} {cnt:σ→Nat}
theorem Co.pure(a:α):Co ok cnt (zzZ a) 0:=fun _ h=>⟨h,Nat.le_refl _⟩
theorem Co.want(b:Bool)(er:Int):Co ok cnt (wantW b er) 0:=fun w h=>by
 unfold wantW
 split <;>exact⟨h,Nat.le_refl _⟩
theorem Co.bind{m:WM σ α}{f:α→WM σ β}{j k l:Nat}(h1:Co ok cnt m j)(h2: ∀ a,Co ok cnt (f a) k)(hl:j+k≤l):Co ok cnt (zyN m f) l:=fun w h=>by
 obtain⟨g1,g2⟩:=h1 w h
 obtain⟨g3,g4⟩:=h2 (m w).1 (m w).2 g1
 exact⟨g3,by show cnt (f (m w).1 (m w).2).2.2≤_;omega⟩
theorem Co.oks{z:α}{m:WM σ α}{k:Nat}(h:Co ok cnt m k):Co ok cnt (okW z m) k:=fun w hw=>by
 unfold okW
 split
 ·exact⟨hw,Nat.le_add_right _ _⟩
 ·exact h w hw
theorem Co.weak{m:WM σ α}{j k:Nat}(h:Co ok cnt m j)(hl:j≤k):Co ok cnt m k:=fun w hw=>⟨(h w hw).1,Nat.le_trans (h w hw).2 (Nat.add_le_add_left hl _)⟩
theorem Co.got(r:Tm×Int):Co ok cnt (gotW r) 0:=.bind (.want _ _) (fun _=>.pure _) (Nat.le_refl _)
theorem Co.iff{b:Bool}{m k:WM σ α}{j:Nat}(h:Co ok cnt m j)(h2:Co ok cnt k j):Co ok cnt (if b=true then m else k) j:=by cases b <;>assumption
theorem Co.need{b:Bool}{er:Int}{m:WM σ Tm}{k:Nat}(h:Co ok cnt m k):Co ok cnt (zBh b er m) k:=.bind (.want _ _) (fun _=>.iff h ((Co.pure _).weak (Nat.zero_le _))) (by omega)
theorem Co.shift(t:Tm)(b:Int):Co ok cnt (zAz t b) 0:=.oks (.got _)
theorem Co.right(t:Tm):Co ok cnt (zCm t) 0:=.oks (.got _)
theorem Co.behind(c:List Tm)(a:Tm):Co ok cnt (zBS c a) 0:=.bind (.want _ _) (fun _=>.pure _) (Nat.le_refl _)
theorem Co.level{ty:List Tm→Tm→WM σ Tm}{c:List Tm}{a:Tm}{k:Nat}(h:Co ok cnt (ty c a) k):Co ok cnt (zz4 ty c a) k:=.bind h (fun _=>.bind (.want _ _) (fun _=>.pure _) (Nat.le_refl _)) (by omega)
theorem Co.of{ty:List Tm→Tm→WM σ Tm}{c:List Tm}{a b:Tm}{k:Nat}(h:Co ok cnt (ty c a) k):Co ok cnt (ofW ty c a b) k:=.bind h (fun _=>.oks (.want _ _)) (by omega)
theorem Co.sig{ty:List Tm→Tm→WM σ Tm}{c:List Tm}{a:Tm}{f:Tm→WM σ Tm}{j k l:Nat}(h:Co ok cnt (ty c a) j)(h2: ∀ s,Co ok cnt (f s) k)(hl:j+k≤l):Co ok cnt (zEZ ty c a f) l:=.bind h (fun _=>.need (h2 _)) hl
end
section
variable {σ α:Type} {ok:σ→Prop} {cnt:σ→Nat}
theorem Er.back{m:WM σ α}(h:Er m){w:WS σ}(q:(m w).2.1=0):w.1=0:=by
 by_cases h0:w.1=0
 ·exact h0
 ·have:=h w.1 w.2 h0
  rw[show(w.1,w.2)=w from rfl]at this
  rw[this]at q;exact q
theorem step{m:WM σ α}{Q:α→Prop}{k:Nat}(hE:Er m)(hC:Co ok cnt m k)(hP:Po m Q)(w:WS σ):((m w).2.1=0→w.1=0∧Q (m w).1)∧(ok w.2→ok (m w).2.2∧cnt (m w).2.2≤cnt w.2+k):=
 ⟨fun q=>⟨hE.back q,by
  have h0:=hE.back q
  have:=hP w.2
  rw[show((0:Int),w.2)=w by rw[←h0]]at this
  exact this q⟩,hC w⟩
end
attribute [local irreducible] WL AC WD WE MStep OkOp
theorem zFe(n:Int):FC Tryz.prog 215 [.int .i64 n] (aT (.mk 2 n [])):=by
 refine zo hty Tryz.func215 rfl rfl rfl fun w0=>?_
 repeat'(first|refine WL_p hty rfl rfl ?_|refine zh ?_|refine zi ?_|refine za ?_|refine zg ?_)
 exact zH rfl rfl (.agg (.cons (.refl _) (.cons (.refl _) (.cons (.full _ _ _) .nil))))
theorem zCB{t:Tm}(h:checkT t=0){i:Nat}(hi:(i:Int) <kidsR t.kind):(rsT t.kids)[i]? =some (cT (kidT t i)):=by
 have hl:=zCE h
 have hlt:i <t.kids.length:=by omega
 have:t.kids[i]? =some (kidT t i):=by
  unfold kidT
  rw[List.getD_eq_getElem?_getD,List.getElem?_eq_getElem hlt];rfl
 exact zac this
section
variable {σ:Type} {N:σ→Tm→Tm×Int×σ} {nf:AV} {tA tB:σ→Nat→AB} {tC:σ→AB} {ok:σ→Prop} {cnt:σ→Nat} {env:List En} (hN:LN N nf tA tB tC ok cnt)
include hN
theorem Co.norm(t:Tm):Co ok cnt (normW N t) 1:=.oks fun w h=>by
 have g1:=hN.keep w.2 t h
 have g2:=hN.more w.2 t
 have:=(Co.got (ok:=ok) (cnt:=cnt) ((N w.2 t).1,(N w.2 t).2.1)) (w.1,(N w.2 t).2.2) g1
 exact⟨this.1,by have:=this.2;simp only at this⊢;omega⟩
theorem Co.inst(b a:Tm):Co ok cnt (instW N b a) 1:=.oks (.bind (.got _) (fun _=>Co.norm hN _) (Nat.le_refl _))
variable {ty:List Tm→Tm→WM σ Tm} {ctx:List Tm} {t:Tm} {w:WS σ}
theorem zCA(ht:MV Tryz.prog 2 99 [.ptr 3 0,sT ctx,aT t] (KS nf tA tB tC env w) (aT (ty ctx t w).1) (KS nf tA tB tC env (ty ctx t w).2)):
 MV Tryz.prog 2 216 [.ptr 3 0,sT ctx,aT t] (KS nf tA tB tC env w) (.int .i64 (zz4 ty ctx t w).1) (KS nf tA tB tC env (zz4 ty ctx t w).2):=by
 show MV _ _ _ _ (KS nf tA tB tC env w) (.int .i64 (ty ctx t w).1.num) (KS nf tA tB tC env (wantW (decide ((ty ctx t w).1.kind=2)) 8 (ty ctx t w).2).2)
 generalize ty ctx t w=r at ht⊢
 have h:=zBV hN (env:=env) r.2 (decide (r.1.kind=2)) 8 (fun _=>by decide)
 generalize hq:wantW (decide (r.1.kind=2)) 8 r.2=q at h⊢
 by_cases hk:r.1.kind=2
 ·rw[decide_eq_true hk]at h
  refine zzj hN Tryz.func216 rfl rfl rfl fun w0 B0 B1 B3=>?_
  repeat'(first|exact absurd hk ‹_›|refine WL_m rfl (zyD hN 0 1011 ht rfl rfl rfl rfl rfl rfl rfl rfl) ?_|refine WL_m rfl (zyD hN 1009 1016 h rfl rfl rfl rfl rfl rfl rfl rfl) ?_|refine WL_p hty rfl rfl ?_|refine zh ?_|refine zi ?_|refine za ?_|refine zg ?_|refine zj rfl rfl rfl rfl (fun _=>?_) (fun _=>?_))
  exact zAU 1014 rfl rfl rfl rfl rfl rfl rfl (.refl _)
 ·rw[decide_eq_false hk]at h
  refine zzj hN Tryz.func216 rfl rfl rfl fun w0 B0 B1 B3=>?_
  repeat'(first|exact absurd (by assumption) hk|refine WL_m rfl (zyD hN 0 1011 ht rfl rfl rfl rfl rfl rfl rfl rfl) ?_|refine WL_m rfl (zyD hN 1009 1016 h rfl rfl rfl rfl rfl rfl rfl rfl) ?_|refine WL_p hty rfl rfl ?_|refine zh ?_|refine zi ?_|refine za ?_|refine zg ?_|refine zj rfl rfl rfl rfl (fun _=>?_) (fun _=>?_))
  exact zAU 1014 rfl rfl rfl rfl rfl rfl rfl (.refl _)
theorem zDg{u:Tm}(hs:(ty ctx t w).1.size≤1048576)(ht:MV Tryz.prog 2 99 [.ptr 3 0,sT ctx,aT t] (KS nf tA tB tC env w) (aT (ty ctx t w).1) (KS nf tA tB tC env (ty ctx t w).2)):
 MV Tryz.prog 2 220 [.ptr 3 0,sT ctx,aT t,aT u] (KS nf tA tB tC env w) (.bool (ofW ty ctx t u w).1) (KS nf tA tB tC env (ofW ty ctx t u w).2):=by
 show MV _ _ _ _ (KS nf tA tB tC env w) (.bool (okW false (wantW (decide ((ty ctx t w).1=u)) 8) (ty ctx t w).2).1) (KS nf tA tB tC env (okW false (wantW (decide ((ty ctx t w).1=u)) 8) (ty ctx t w).2).2)
 generalize ty ctx t w=r at ht hs⊢
 have heq:=zd7 r.1 u hs
 have h:=zBV hN (env:=env) r.2 (decide (r.1=u)) 8 (fun _=>by decide)
 by_cases h0:r.2.1=0
 ·rw[show okW false (wantW (decide (r.1=u)) 8) r.2=wantW (decide (r.1=u)) 8 r.2 by unfold okW;rw[if_neg (fun q=>q h0)]]
  generalize wantW (decide (r.1=u)) 8 r.2=q at h⊢
  generalize decide (r.1=u)=b at heq h
  generalize hb:q.1=c at h⊢
  refine zzj hN Tryz.func220 rfl rfl rfl fun w0 B0 B1 B3=>?_
  repeat'(first|exact absurd h0 ‹_›|refine WL_m rfl (zyD hN 0 1013 ht rfl rfl rfl rfl rfl rfl rfl rfl) ?_|refine zv 0 rfl heq rfl rfl rfl ?_|refine WL_m rfl (zyD hN 1011 1024 h rfl rfl rfl rfl rfl rfl rfl rfl) ?_|refine WL_p hty rfl rfl ?_|refine zh ?_|refine zi ?_|refine za ?_|refine zg ?_|refine zx rfl rfl ?_|refine zj rfl rfl rfl rfl (fun _=>?_) (fun _=>?_))
  exact zAU 1022 rfl rfl rfl rfl rfl rfl rfl (.refl _)
 ·rw[show okW false (wantW (decide (r.1=u)) 8) r.2=(false,r.2) by unfold okW;rw[if_pos h0]]
  refine zzj hN Tryz.func220 rfl rfl rfl fun w0 B0 B1 B3=>?_
  repeat'(first|exact absurd (by assumption) h0|refine WL_m rfl (zyD hN 0 1013 ht rfl rfl rfl rfl rfl rfl rfl rfl) ?_|refine WL_p hty rfl rfl ?_|refine zh ?_|refine zi ?_|refine za ?_|refine zg ?_|refine zq rfl rfl rfl ?_|refine zj rfl rfl rfl rfl (fun _=>?_) (fun _=>?_))
  exact zAU 1011 rfl rfl rfl rfl rfl rfl rfl (.refl _)
theorem zE7(ht:MV Tryz.prog 2 99 [.ptr 3 0,sT ctx,aT t] (KS nf tA tB tC env w) (aT (ty ctx t w).1) (KS nf tA tB tC env (ty ctx t w).2)):
 MV Tryz.prog 2 222 [.ptr 3 0,sT ctx,aT t] (KS nf tA tB tC env w) (.tup [aT (ty ctx t w).1,.bool (wantW (decide ((ty ctx t w).1.kind=7)) 8 (ty ctx t w).2).1]) (KS nf tA tB tC env (wantW (decide ((ty ctx t w).1.kind=7)) 8 (ty ctx t w).2).2):=by
 generalize ty ctx t w=r at ht⊢
 have h:=zBV hN (env:=env) r.2 (decide (r.1.kind=7)) 8 (fun _=>by decide)
 generalize wantW (decide (r.1.kind=7)) 8 r.2=q at h⊢
 by_cases hk:r.1.kind=7
 ·rw[decide_eq_true hk]at h
  refine zzj hN Tryz.func222 rfl rfl rfl fun w0 B0 B1 B3=>?_
  repeat'(first|exact absurd hk ‹_›|refine zD (id:=2) zDe rfl (by kernel_rfl) ?_|refine WL_m rfl (zyD hN 0 1012 ht rfl rfl rfl rfl rfl rfl rfl rfl) ?_|refine zbc rfl (zyD hN 1010 1018 h rfl rfl rfl rfl rfl rfl rfl rfl) ?_|refine zu (.inl ⟨rfl,zI hty rfl rfl⟩) ?_|refine zS ⟨by kernel_rfl,?_⟩|refine WL_p hty rfl rfl ?_|refine zh ?_|refine zi ?_|refine za ?_|refine zg ?_|refine zaC rfl rfl rfl rfl (fun _=>?_) (fun _=>?_))
  exact zAU 1016 rfl rfl rfl rfl rfl rfl rfl (.refl _)
 ·rw[decide_eq_false hk]at h
  refine zzj hN Tryz.func222 rfl rfl rfl fun w0 B0 B1 B3=>?_
  repeat'(first|exact absurd (by assumption) hk|refine zD (id:=2) zDe rfl (by kernel_rfl) ?_|refine WL_m rfl (zyD hN 0 1012 ht rfl rfl rfl rfl rfl rfl rfl rfl) ?_|refine zbc rfl (zyD hN 1010 1018 h rfl rfl rfl rfl rfl rfl rfl rfl) ?_|refine zu (.inl ⟨rfl,zI hty rfl rfl⟩) ?_|refine zS ⟨by kernel_rfl,?_⟩|refine WL_p hty rfl rfl ?_|refine zh ?_|refine zi ?_|refine za ?_|refine zg ?_|refine zaC rfl rfl rfl rfl (fun _=>?_) (fun _=>?_))
  exact zAU 1016 rfl rfl rfl rfl rfl rfl rfl (.refl _)
end
end Go.Proofs.YtokfbblhjpfjkaaGreat
