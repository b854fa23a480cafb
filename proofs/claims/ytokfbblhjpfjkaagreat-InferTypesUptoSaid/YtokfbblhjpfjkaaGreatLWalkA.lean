/- The walk's small methods: errors noted; terms made normal, replaced, shifted; co -/
import Derived.Test.YtokfbblhjpfjkaaGreatLWalkL
set_option linter.unusedSimpArgs false
set_option linter.unusedVariables false
namespace Go.Proofs.YtokfbblhjpfjkaaGreat
open Go.Aw Go.RowKit
def zEK:List (Nat×List Nat):=[(0,[100000,100001,100002,100003,101017,101020]),(1,[]),(2,[1]),(3,[1,2]),(4,[1,2,3]),(5,[]),(6,[1,2,3,4,5]),(7,[1,2,3,4,5,6]),(8,[1,2,3,4,5,6]),(9,[0,1,2,3,4,5,6,7,8]),(10,[0,1,2,3,4,5,6,7,8,9])]
def zEJ:List (Nat×List Nat):=[(0,[]),(1,[]),(2,[]),(3,[2]),(4,[0,1,2,3]),(5,[0,1,2,3,4])]
def zDQ:List (Nat×List Nat):=[(0,[]),(1,[0]),(2,[]),(3,[2]),(4,[0,1,2,3]),(5,[0,1,2,3,4])]
attribute [local irreducible] WL AC WD WE MStep OkOp
theorem zGy(l:List Tm):FC Tryz.prog 241 [sT l] (.lst 3 (rsT l) true):=by
 refine zo hty Tryz.func241 rfl rfl rfl fun w0=>?_
 repeat'(first|refine WL_m rfl (zHz hty rfl rfl rfl rfl rfl) ?_|refine WL_p hty rfl rfl ?_|refine zh ?_|refine zi ?_|refine za ?_|refine zg ?_)
 exact zH rfl rfl (.refl _)
theorem zCj(f:Bool):Wk (.agg [.int .i64 0,.int .i64 0,.lst 3 [] f]) (aT zT):=by
 refine .agg (.cons (.refl _) (.cons (.refl _) (.cons ?_ .nil)))
 cases f
 ·exact .refl _
 ·exact .full _ _ _
section
variable {σ:Type} {N:σ→Tm→Tm×Int×σ} {nf:AV} {tA tB:σ→Nat→AB} {tC:σ→AB} {ok:σ→Prop} {cnt:σ→Nat} {env:List En} (hN:LN N nf tA tB tC ok cnt)
include hN
theorem zBV(w:WS σ)(b:Bool)(er:Int)(her:b=false→er≠0):MV Tryz.prog 2 213 [.ptr 3 0,.bool b,.int .i64 er] (KS nf tA tB tC env w) (.bool (wantW b er w).1) (KS nf tA tB tC env (wantW b er w).2):=by
 obtain⟨e,s⟩:=w
 by_cases h0:e=0
 ·subst h0
  cases b
  ·have he:=her rfl
   rw[show wantW false er (0,s)=(false,(er,s)) by unfold wantW;rw[if_pos ⟨rfl,rfl⟩]]
   refine zzj hN Tryz.func213 rfl rfl rfl fun w0 B0 B1 B3=>?_
   repeat'(first|exact absurd rfl ‹_›|exact absurd (by assumption) he|refine WL_p hty rfl rfl ?_|refine zh ?_|refine zi ?_|refine za ?_|refine zd rfl ?_|refine zg ?_|refine zx rfl rfl ?_|refine zj rfl rfl rfl rfl (fun _=>?_) (fun _=>?_))
   exact zAU 0 rfl rfl rfl rfl rfl rfl rfl (.refl _)
  ·rw[show wantW true er (0,s)=(true,(0,s)) by unfold wantW;rw[if_neg (fun q=>by cases q.2)];rfl]
   refine zzj hN Tryz.func213 rfl rfl rfl fun w0 B0 B1 B3=>?_
   repeat'(first|exact absurd rfl ‹_›|refine WL_p hty rfl rfl ?_|refine zh ?_|refine zi ?_|refine za ?_|refine zxg ?_|refine zbZ rfl ?_|refine zg ?_|refine zx rfl rfl ?_|refine zj rfl rfl rfl rfl (fun _=>?_) (fun _=>?_))
   exact zAU 0 rfl rfl rfl rfl rfl rfl rfl (.refl _)
 ·rw[show wantW b er (e,s)=(false,(e,s)) by unfold wantW;rw[if_neg (fun q=>h0 q.1)];simp[h0]]
  refine zzj hN Tryz.func213 rfl rfl rfl fun w0 B0 B1 B3=>?_
  repeat'(first|exact absurd (by assumption) h0|refine WL_p hty rfl rfl ?_|refine zh ?_|refine zi ?_|refine za ?_|refine zxg ?_|refine zbZ rfl ?_|refine zg ?_|refine zq rfl rfl rfl ?_|refine zj rfl rfl rfl rfl (fun _=>?_) (fun _=>?_))
  exact zAU 0 rfl rfl rfl rfl rfl rfl rfl (.refl _)
theorem zDk(w:WS σ)(t:Tm)(e:Int):MV Tryz.prog 2 240 [.ptr 3 0,aT t,.int .i64 e] (KS nf tA tB tC env w) (aT (gotW (t,e) w).1) (KS nf tA tB tC env (gotW (t,e) w).2):=by
 have h:=zBV hN (env:=env) w (decide (e=0)) e (fun q=>of_decide_eq_false q)
 show MV _ _ _ _ (KS nf tA tB tC env w) (aT t) (KS nf tA tB tC env (wantW (decide (e=0)) e w).2)
 generalize wantW (decide (e=0)) e w=r at h⊢
 by_cases he:e=0
 ·rw[decide_eq_true he]at h
  refine zzj hN Tryz.func240 rfl rfl rfl fun w0 B0 B1 B3=>?_
  repeat'(first|exact absurd he ‹_›|refine WL_m rfl (zyD hN 0 1011 h rfl rfl rfl rfl rfl rfl rfl rfl) ?_|refine WL_p hty rfl rfl ?_|refine zh ?_|refine zi ?_|refine za ?_|refine zg ?_|refine zj rfl rfl rfl rfl (fun _=>?_) (fun _=>?_))
  exact zAU 1009 rfl rfl rfl rfl rfl rfl rfl (.refl _)
 ·rw[decide_eq_false he]at h
  refine zzj hN Tryz.func240 rfl rfl rfl fun w0 B0 B1 B3=>?_
  repeat'(first|exact absurd (by assumption) he|refine WL_m rfl (zyD hN 0 1011 h rfl rfl rfl rfl rfl rfl rfl rfl) ?_|refine WL_p hty rfl rfl ?_|refine zh ?_|refine zi ?_|refine za ?_|refine zg ?_|refine zj rfl rfl rfl rfl (fun _=>?_) (fun _=>?_))
  exact zAU 1009 rfl rfl rfl rfl rfl rfl rfl (.refl _)
theorem zCs(w:WS σ)(t:Tm)(ht:w.1=0→t.size≤1048576∧ok w.2∧cnt w.2≤4000000):MV Tryz.prog 2 218 [.ptr 3 0,aT t] (KS nf tA tB tC env w) (aT (normW N t w).1) (KS nf tA tB tC env (normW N t w).2):=by
 obtain⟨e,s⟩:=w
 by_cases h0:e=0
 ·subst h0
  obtain⟨h1,h2,h3⟩:=ht rfl
  have h:=zDk hN (env:=env) (0,(N s t).2.2) (N s t).1 (N s t).2.1
  rw[show normW N t (0,s)=gotW ((N s t).1,(N s t).2.1) (0,(N s t).2.2)from rfl]
  generalize gotW ((N s t).1,(N s t).2.1) (0,(N s t).2.2)=r at h⊢
  refine zzj hN Tryz.func218 rfl rfl rfl fun w0 B0 B1 B3=>?_
  repeat'(first|exact absurd rfl ‹_›|refine zD (id:=3) zEK rfl (by kernel_rfl) ?_|refine zbc rfl (zHo hN 0 1017 h2 h3 h1 rfl rfl rfl rfl rfl rfl rfl) ?_|refine zbc rfl (zyD hN 1015 1020 h rfl rfl rfl rfl rfl rfl rfl rfl) ?_|refine zu (.inl ⟨rfl,zI hty rfl rfl⟩) ?_|refine zS ⟨by kernel_rfl,?_⟩|refine WL_p hty rfl rfl ?_|refine zh ?_|refine zi ?_|refine za ?_|refine zxg ?_|refine zbZ rfl ?_|refine zg ?_|refine zj rfl rfl rfl rfl (fun _=>?_) (fun _=>?_))
  exact zAU 1018 rfl rfl rfl rfl rfl rfl rfl (.refl _)
 ·rw[show normW N t (e,s)=(zT,(e,s)) by unfold normW okW;rw[if_pos h0]]
  refine zzj hN Tryz.func218 rfl rfl rfl fun w0 B0 B1 B3=>?_
  repeat'(first|exact absurd h0 (by assumption)|refine WL_p hty rfl rfl ?_|refine zh ?_|refine zi ?_|refine za ?_|refine zd rfl ?_|refine zg ?_|refine zj rfl rfl rfl rfl (fun _=>?_) (fun _=>?_))
  exact zAU 0 rfl rfl rfl rfl rfl rfl rfl (zCj _)
theorem zCX(w:WS σ)(t:Tm)(b:Int)(ht:w.1=0→t.size≤1048576):MV Tryz.prog 2 214 [.ptr 3 0,aT t,.int .i64 b] (KS nf tA tB tC env w) (aT (zAz t b w).1) (KS nf tA tB tC env (zAz t b w).2):=by
 obtain⟨e,s⟩:=w
 by_cases h0:e=0
 ·subst h0
  have h1:=zjN t b 0 (ht rfl)
  have h:=zDk hN (env:=env) (0,s) (zbs t b 0).1 (zbs t b 0).2
  rw[show zAz t b (0,s)=gotW ((zbs t b 0).1,(zbs t b 0).2) (0,s)from rfl]
  generalize gotW ((zbs t b 0).1,(zbs t b 0).2) (0,s)=r at h⊢
  refine zzj hN Tryz.func214 rfl rfl rfl fun w0 B0 B1 B3=>?_
  repeat'(first|exact absurd rfl ‹_›|refine zv 0 rfl h1 rfl rfl rfl ?_|refine WL_m rfl (zyD hN 0 1019 h rfl rfl rfl rfl rfl rfl rfl rfl) ?_|refine WL_p hty rfl rfl ?_|refine zh ?_|refine zi ?_|refine za ?_|refine zxg ?_|refine zbZ rfl ?_|refine zg ?_|refine zj rfl rfl rfl rfl (fun _=>?_) (fun _=>?_))
  exact zAU 1017 rfl rfl rfl rfl rfl rfl rfl (.refl _)
 ·rw[show zAz t b (e,s)=(zT,(e,s)) by unfold zAz okW;rw[if_pos h0]]
  refine zzj hN Tryz.func214 rfl rfl rfl fun w0 B0 B1 B3=>?_
  repeat'(first|exact absurd h0 (by assumption)|refine WL_p hty rfl rfl ?_|refine zh ?_|refine zi ?_|refine za ?_|refine zd rfl ?_|refine zg ?_|refine zj rfl rfl rfl rfl (fun _=>?_) (fun _=>?_))
  exact zAU 0 rfl rfl rfl rfl rfl rfl rfl (zCj _)
theorem zD2(w:WS σ)(t:Tm)(ht:w.1=0→t.size≤1048576):MV Tryz.prog 2 219 [.ptr 3 0,aT t] (KS nf tA tB tC env w) (aT (zCm t w).1) (KS nf tA tB tC env (zCm t w).2):=by
 obtain⟨e,s⟩:=w
 by_cases h0:e=0
 ·subst h0
  have h1:=zb2 t (ht rfl)
  have h:=zDk hN (env:=env) (0,s) t (checkT t)
  rw[show zCm t (0,s)=gotW (t,checkT t) (0,s)from rfl]
  generalize gotW (t,checkT t) (0,s)=r at h⊢
  refine zzj hN Tryz.func219 rfl rfl rfl fun w0 B0 B1 B3=>?_
  repeat'(first|exact absurd rfl ‹_›|refine zD (id:=3) zEJ rfl (by kernel_rfl) ?_|refine zad 0 rfl h1 rfl rfl rfl ?_|refine zbc rfl (zyD hN 0 1015 h rfl rfl rfl rfl rfl rfl rfl rfl) ?_|refine zu (.inl ⟨rfl,zI hty rfl rfl⟩) ?_|refine zS ⟨by kernel_rfl,?_⟩|refine WL_p hty rfl rfl ?_|refine zh ?_|refine zi ?_|refine za ?_|refine zxg ?_|refine zbZ rfl ?_|refine zg ?_|refine zj rfl rfl rfl rfl (fun _=>?_) (fun _=>?_))
  exact zAU 1013 rfl rfl rfl rfl rfl rfl rfl (.refl _)
 ·rw[show zCm t (e,s)=(zT,(e,s)) by unfold zCm okW;rw[if_pos h0]]
  refine zzj hN Tryz.func219 rfl rfl rfl fun w0 B0 B1 B3=>?_
  repeat'(first|exact absurd h0 (by assumption)|refine WL_p hty rfl rfl ?_|refine zh ?_|refine zi ?_|refine za ?_|refine zd rfl ?_|refine zg ?_|refine zj rfl rfl rfl rfl (fun _=>?_) (fun _=>?_))
  exact zAU 0 rfl rfl rfl rfl rfl rfl rfl (zCj _)
theorem zDx(w:WS σ)(b a:Tm)(ht:w.1=0→b.size≤1048576∧a.size≤1048576∧ok w.2∧cnt w.2≤4000000):MV Tryz.prog 2 221 [.ptr 3 0,aT b,aT a] (KS nf tA tB tC env w) (aT (instW N b a w).1) (KS nf tA tB tC env (instW N b a w).2):=by
 obtain⟨e,s⟩:=w
 by_cases h0:e=0
 ·subst h0
  obtain⟨g1,g2,g3,g4⟩:=ht rfl
  have h1:=(zfW b [a] 0 g1 (by simp only[sizes];omega)).args (xs:=[aT b,.lst 3 [cT a] true,.int .i64 0]) (.cons (.refl _) (.cons (by rw[←rs1];exact .full _ _ _) (.cons (.refl _) .nil)))
  have h:=zDk hN (env:=env) (0,s) (instT b [a] 0).1 (instT b [a] 0).2
  have hsz:=zeB b [a] 0
  have hst:(gotW ((instT b [a] 0).1,(instT b [a] 0).2) (0,s)).2.2=s:=by
   show(wantW _ _ (0,s)).2.2=s
   unfold wantW;split <;>rfl
  have hg1:(gotW ((instT b [a] 0).1,(instT b [a] 0).2) (0,s)).1=(instT b [a] 0).1:=rfl
  rw[show instW N b a (0,s)=normW N (gotW ((instT b [a] 0).1,(instT b [a] 0).2) (0,s)).1 (gotW ((instT b [a] 0).1,(instT b [a] 0).2) (0,s)).2 from rfl]
  have h2:=zCs hN (env:=env) (gotW ((instT b [a] 0).1,(instT b [a] 0).2) (0,s)).2 (gotW ((instT b [a] 0).1,(instT b [a] 0).2) (0,s)).1 (fun _=>⟨by rw[hg1];omega,by rw[hst];exact g3,by rw[hst];exact g4⟩)
  generalize gotW ((instT b [a] 0).1,(instT b [a] 0).2) (0,s)=r at h h2⊢
  generalize normW N r.1 r.2=r2 at h2⊢
  refine zzj hN Tryz.func221 rfl rfl rfl fun w0 B0 B1 B3=>?_
  repeat'(first|exact absurd rfl ‹_›|refine zv 0 rfl h1 rfl rfl rfl ?_|refine WL_m rfl (zyD hN 0 1021 h rfl rfl rfl rfl rfl rfl rfl rfl) ?_|refine WL_m rfl (zyD hN 1019 1022 h2 rfl rfl rfl rfl rfl rfl rfl rfl) ?_|refine WL_p hty rfl rfl ?_|refine zh ?_|refine zi ?_|refine za ?_|refine zxg ?_|refine zbZ rfl ?_|refine zg ?_|refine zj rfl rfl rfl rfl (fun _=>?_) (fun _=>?_))
  exact zAU 1020 rfl rfl rfl rfl rfl rfl rfl (.refl _)
 ·rw[show instW N b a (e,s)=(zT,(e,s)) by unfold instW okW;rw[if_pos h0]]
  refine zzj hN Tryz.func221 rfl rfl rfl fun w0 B0 B1 B3=>?_
  repeat'(first|exact absurd h0 (by assumption)|refine WL_p hty rfl rfl ?_|refine zh ?_|refine zi ?_|refine za ?_|refine zd rfl ?_|refine zg ?_|refine zj rfl rfl rfl rfl (fun _=>?_) (fun _=>?_))
  exact zAU 0 rfl rfl rfl rfl rfl rfl rfl (zCj _)
theorem zDF(w:WS σ)(ctx:List Tm)(a:Tm)(hl:ctx.length≤4000):MV Tryz.prog 2 217 [.ptr 3 0,sT ctx,aT a] (KS nf tA tB tC env w) (sT (zBS ctx a w).1) (KS nf tA tB tC env (zBS ctx a w).2):=by
 have h:=zBV hN (env:=env) w (decide ((ctx.length:Int) <40)) 13 (fun _=>by decide)
 have hc:=zGy ctx
 have hr:=zeb ctx
 have he:rsT (ctx++[a])=rsT ctx++[cT a]:=by rw[zas,rs1]
 show MV _ _ _ _ (KS nf tA tB tC env w) (sT (ctx++[a])) (KS nf tA tB tC env (wantW (decide ((ctx.length:Int) <40)) 13 w).2)
 rw[show(sT (ctx++[a]):AV)=.lst 3 (rsT ctx++[cT a]) false by rw[←he]]
 generalize wantW (decide ((ctx.length:Int) <40)) 13 w=r at h⊢
 by_cases hq:(ctx.length:Int) <40
 ·rw[decide_eq_true hq]at h
  refine zzj hN Tryz.func217 rfl rfl rfl fun w0 B0 B1 B3=>?_
  repeat'(first|(rename_i q;exact absurd hq (by omega))|refine WL_m rfl (zyD hN 0 1011 h rfl rfl rfl rfl rfl rfl rfl rfl) ?_|refine zD (id:=2) zDQ rfl (by kernel_rfl) ?_|refine zad 0 rfl hc rfl rfl rfl ?_|refine zbc rfl (zwj hty 16 rfl rfl rfl (by simp) rfl rfl rfl (by simp) (by simp only[zeb,List.length_cons,List.length_nil];omega) rfl rfl rfl) ?_|refine zu (.inl ⟨rfl,zI hty rfl rfl⟩) ?_|refine zS ⟨by kernel_rfl,?_⟩|refine WL_p hty rfl rfl ?_|refine zh ?_|refine zi ?_|refine za ?_|refine zg ?_|refine zj rfl rfl rfl rfl (fun _=>?_) (fun _=>?_))
  exact zAU 1009 rfl rfl rfl rfl rfl rfl rfl (.refl _)
 ·rw[decide_eq_false hq]at h
  refine zzj hN Tryz.func217 rfl rfl rfl fun w0 B0 B1 B3=>?_
  repeat'(first|(rename_i q;exact absurd q (by omega))|refine WL_m rfl (zyD hN 0 1011 h rfl rfl rfl rfl rfl rfl rfl rfl) ?_|refine zD (id:=2) zDQ rfl (by kernel_rfl) ?_|refine zad 0 rfl hc rfl rfl rfl ?_|refine zbc rfl (zwj hty 16 rfl rfl rfl (by simp) rfl rfl rfl (by simp) (by simp only[zeb,List.length_cons,List.length_nil];omega) rfl rfl rfl) ?_|refine zu (.inl ⟨rfl,zI hty rfl rfl⟩) ?_|refine zS ⟨by kernel_rfl,?_⟩|refine WL_p hty rfl rfl ?_|refine zh ?_|refine zi ?_|refine za ?_|refine zg ?_|refine zj rfl rfl rfl rfl (fun _=>?_) (fun _=>?_))
  exact zAU 1009 rfl rfl rfl rfl rfl rfl rfl (.refl _)
end
end Go.Proofs.YtokfbblhjpfjkaaGreat
