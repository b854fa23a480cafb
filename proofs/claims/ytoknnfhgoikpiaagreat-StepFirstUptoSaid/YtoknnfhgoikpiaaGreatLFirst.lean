/- The first place is one at which something is reduced, and there is none ahead of -/
import Derived.Test.YtoknnfhgoikpiaaGreatLFirstR
import Derived.Test.YtoknnfhgoikpiaaGreatGJ
import Derived.Test.YtoknnfhgoikpiaaGreatGH
import Derived.Test.YtoknnfhgoikpiaaGreatGF
import Derived.Test.YtoknnfhgoikpiaaGreatLPartsL
import Derived.Test.YtoknnfhgoikpiaaGreatGL
namespace Go.Proofs.YtoknnfhgoikpiaaGreat
set_option linter.unusedSimpArgs false
set_option linter.unusedVariables false
open Go.Aw Go.RowKit
attribute [local irreducible] WL AC WD WE MStep OkOp
theorem zw4{lk:Tm→Option (Tm×Int)}{t u:Tm}{p:List Int}{r:Tm×Int}(hc:z8 t=0)(hf:zaZ t p=some u)(hk:lk u=some r)(hr:r.2=0)(hcr:z8 r.1=0):doR 0 lk t p=putR t p r.1:=by
 rw[zpi 0 lk t p rfl hc,zgB hf hk hr,zgN]
 unfold putR
 rw[if_neg (by omega),if_neg (by omega),hf];rfl
theorem zw1{lk:Tm→Option (Tm×Int)}{t u:Tm}{p:List Int}{r:Tm×Int}(hc:z8 t=0)(hf:zaZ t p=some u)(hk:lk u=some r)(hr:r.2≠0):doR 0 lk t p=(zT,r.2):=by
 have hm:makeR lk t p=(zT,r.2):=by unfold makeR;simp only[hf,hk];rw[if_pos hr]
 rw[zpi 0 lk t p rfl hc,hm,if_pos hr]
theorem zwA{t u:Tm}{p:List Int}:(putR t p u).1.size≤6000:=by
 unfold putR
 repeat' split
 all_goals first
  |exact zm2 _
  |exact(show zT.size≤6000 by decide)
set_option maxHeartbeats 16000000 in
theorem zwp(env:List En)(t:Tm)(h:zbJ env+t.size≤1048576):FC Tryz.prog 12 [sE env,aT t] (.bool true):=by
 have hp1:=t.size_pos
 have he:=znh env (by omega)
 have hv:FC Tryz.prog 16 [.lst 3 [cT t] true] (.bool (zbk [t])):=by
  have h1:=zde [t] (by simp only[sizes];omega)
  simp only[sT,rs1]at h1
  exact h1.args (.cons (.full _ _ _) .nil)
 have hg:=zrl env (by omega)
 have hck:=zo2 t (by omega)
 have hsz:=zfS t (by omega)
 have hw:=zlL
 have hlk:=zuW env (by omega)
 have hF:=zps hlk t (by omega)
 by_cases hgo:envI env=0∧z8 t=0∧t.size≤80
 case neg=>
  refine zo hty Tryz.func12 rfl rfl rfl fun w0=>?_
  repeat'(first|(exfalso;omega)|refine zL rfl he rfl (fun _=>?_) (fun _=>?_)|refine zL rfl hv rfl (fun _=>?_) (fun _=>?_)|refine zv 0 rfl hg rfl rfl rfl ?_|refine zv 0 rfl hck rfl rfl rfl ?_|refine zv 0 rfl hsz rfl rfl rfl ?_|refine WL_p hty rfl rfl ?_|refine zh ?_|refine zi ?_|refine za ?_|refine ze ?_|refine zd rfl ?_|refine zc rfl ?_|refine zg ?_|refine zx rfl rfl ?_|refine zq rfl rfl rfl ?_|refine zt rfl rfl rfl ?_|refine zr rfl rfl rfl ?_|refine zb rfl ?_|refine zj rfl rfl rfl rfl (fun _=>?_) (fun _=>?_)|refine zk rfl (fun _=>?_) (fun _=>?_))
  all_goals first
   |rfl
   |(exfalso;omega)
 obtain⟨hE,hC,hS⟩:=hgo
 rw[hE]at hg hlk hF
 rw[hC]at hck
 have hFe:zfv 0 (lookR env) t=zc0 (lookR env) t:=by unfold zfv;rw[if_neg (by omega),if_neg (by omega)]
 rw[hFe]at hF
 have hst:=fun e (he:e.length≤1048576) bound=>zw3 env (by omega) hE e he bound 6000 (by omega) t (by omega) hC [] (by simp)
 cases hp:zc0 (lookR env) t with
 |none=>
  rw[hp]at hF
  have h1:=hst [] (by simp) false
  rw[zvp (lookR env) [] false t [] hp]at h1
  replace h1:=h1.args (xs:=[sE env,aT t,.lst 0 [] true,.lst 0 [] true,.bool false]) (.cons (.refl _) (.cons (.refl _) (.cons (.nilF _ _ _) (.cons (.nilF _ _ _) (.cons (.refl _) .nil)))))
  refine zo hty Tryz.func12 rfl rfl rfl fun w0=>?_
  repeat'(first|exact absurd rfl ‹_›|(exfalso;omega)|(refine zhH (id:=3) ?_;refine zab (zp (l:=[(0,_),(3,_)]) (bl:=[(3,_)]) ⟨(zz rfl rfl),(zz rfl rfl),trivial⟩ ⟨(zw rfl rfl),trivial⟩) ?_;refine za ?_)|refine zL rfl he rfl (fun _=>?_) (fun _=>?_)|refine zL rfl hv rfl (fun _=>?_) (fun _=>?_)|refine zv 0 rfl hg rfl rfl rfl ?_|refine zv 0 rfl hck rfl rfl rfl ?_|refine zv 0 rfl hsz rfl rfl rfl ?_|refine zv 0 rfl hF rfl rfl rfl ?_|refine zv 0 rfl h1 rfl rfl rfl ?_|refine zv 0 rfl hw rfl rfl rfl ?_|refine WL_p hty rfl rfl ?_|refine zh ?_|refine zi ?_|refine za ?_|refine ze ?_|refine zd rfl ?_|refine zc rfl ?_|refine zg ?_|refine zx rfl rfl ?_|refine zq rfl rfl rfl ?_|refine zt rfl rfl rfl ?_|refine zr rfl rfl rfl ?_|refine zb rfl ?_|refine zj rfl rfl rfl rfl (fun _=>?_) (fun _=>?_)|refine zk rfl (fun _=>?_) (fun _=>?_))
  all_goals rfl
 |some p=>
  rw[hp]at hF
  obtain⟨x,r,hf,hk⟩:=zws p t hp
  have hpl:=zpk (lookR env) 6000 t p (by omega) hp
  have hCx:=zql hC hf
  have hxs:=(zcH hCx).1
  have hA:=zxa t p (by omega) (by omega)
  rw[zwg hC hf]at hA
  have hI:=zwO env x (by omega) (by omega)
  rw[zw7 hE hCx,hk]at hI
  have h2:=hst p (by omega) true
  rw[show zkO (lookR env) p true [] t=true from zwk (lookR env) t [] p hp]at h2
  replace h2:=h2.args (xs:=[sE env,aT t,.lst 0 [] true,sI p,.bool true]) (.cons (.refl _) (.cons (.refl _) (.cons (.nilF _ _ _) (.cons (.refl _) (.cons (.refl _) .nil)))))
  have hR:=zwU env x (by omega) (by omega)
  have hRx:zvR env x=if r.2≠0 then(zT,r.2)else(r.1,0):=by unfold zvR;rw[if_neg (by omega),if_neg (by omega),hk]
  rw[hRx]at hR
  have hD:=zgV hlk t p (by omega) (by omega)
  by_cases hr:r.2=0
  ·rw[if_neg (by omega)]at hR
   have hcr:=zwS hE hCx hk hr
   rw[zw4 hC hf hk hr hcr]at hD
   have hrs:=(zcH hcr).1
   have hP:=zw8 t p r.1 (by omega) (by omega) (by omega)
   have zP:=zwA (t:=t) (u:=r.1) (p:=p)
   have kT:=zpx (putR t p r.1).1 (by omega)
   generalize putR t p r.1=Z at hD hP kT
   refine zo hty Tryz.func12 rfl rfl rfl fun w0=>?_
   repeat'(first|exact absurd rfl ‹_›|(exfalso;omega)|(refine zhH (id:=3) ?_;refine zab (zp (l:=[(0,_),(3,_)]) (bl:=[(3,_)]) ⟨(zz rfl rfl),(zz rfl rfl),trivial⟩ ⟨(zw rfl rfl),trivial⟩) ?_;refine za ?_)|(refine zhH (id:=6) ?_;refine zab (zp (l:=[(0,_),(3,_),(5,_),(6,_)]) (bl:=[(3,_)]) ⟨(zz rfl rfl),(zz rfl rfl),(zz rfl rfl),(zz rfl rfl),trivial⟩ ⟨(zw rfl rfl),trivial⟩) ?_;refine za ?_)|(refine zhH (id:=7) ?_;refine zab (zp (l:=[(0,_),(3,_),(5,_),(7,_),(8,_)]) (bl:=[(3,_),(7,_)]) ⟨(zz rfl rfl),(zz rfl rfl),(zz rfl rfl),(zz rfl rfl),(zz rfl rfl),trivial⟩ ⟨(zw rfl rfl),(zw rfl rfl),trivial⟩) ?_;refine za ?_)|(refine zhH (id:=9) ?_;refine zab (zp (l:=[(0,_),(3,_),(5,_),(7,_)]) (bl:=[(3,_),(7,_)]) ⟨(zz rfl rfl),(zz rfl rfl),(zz rfl rfl),(zz rfl rfl),trivial⟩ ⟨(zw rfl rfl),(zw rfl rfl),trivial⟩) ?_;refine za ?_)|(refine zhH (id:=10) ?_;refine zab (zp (l:=[(0,_),(3,_),(5,_),(9,_),(10,_)]) (bl:=[(3,_),(9,_)]) ⟨(zz rfl rfl),(zz rfl rfl),(zz rfl rfl),(zz rfl rfl),(zz rfl rfl),trivial⟩ ⟨(zw rfl rfl),(zw rfl rfl),trivial⟩) ?_;refine za ?_)|(refine zhH (id:=13) ?_;refine zab (zp (l:=[(0,_),(3,_),(5,_),(9,_),(11,_),(12,_)]) (bl:=[(3,_),(9,_),(11,_)]) ⟨(zz rfl rfl),(zz rfl rfl),(zz rfl rfl),(zz rfl rfl),(zz rfl rfl),(zz rfl rfl),trivial⟩ ⟨(zw rfl rfl),(zw rfl rfl),(zw rfl rfl),trivial⟩) ?_;refine za ?_)|(refine zhH (id:=14) ?_;refine zab (zp (l:=[(11,_),(12,_),(13,_),(14,_)]) (bl:=[(11,_),(13,_)]) ⟨(zz rfl rfl),(zz rfl rfl),(zz rfl rfl),(zz rfl rfl),trivial⟩ ⟨(zw rfl rfl),(zw rfl rfl),trivial⟩) ?_;refine za ?_)|refine zL rfl he rfl (fun _=>?_) (fun _=>?_)|refine zL rfl hv rfl (fun _=>?_) (fun _=>?_)|refine zv 0 rfl hg rfl rfl rfl ?_|refine zv 0 rfl hck rfl rfl rfl ?_|refine zv 0 rfl hsz rfl rfl rfl ?_|refine zv 0 rfl hF rfl rfl rfl ?_|refine zv 0 rfl hA rfl rfl rfl ?_|refine zv 0 rfl hI rfl rfl rfl ?_|refine zv 0 rfl h2 rfl rfl rfl ?_|refine zv 0 rfl hR rfl rfl rfl ?_|refine zv 0 rfl hD rfl rfl rfl ?_|refine zv 0 rfl hw rfl rfl rfl ?_|refine zv 0 rfl hP rfl rfl rfl ?_|refine zv 0 rfl kT rfl rfl rfl ?_|refine WL_p hty rfl rfl ?_|refine zh ?_|refine zi ?_|refine za ?_|refine ze ?_|refine zd rfl ?_|refine zc rfl ?_|refine zg ?_|refine zx rfl rfl ?_|refine zq rfl rfl rfl ?_|refine zt rfl rfl rfl ?_|refine zr rfl rfl rfl ?_|refine zb rfl ?_|refine zj rfl rfl rfl rfl (fun _=>?_) (fun _=>?_)|refine zk rfl (fun _=>?_) (fun _=>?_))
   all_goals first
    |rfl
    |(exfalso;omega)
  ·rw[if_pos hr]at hR
   rw[zw1 hC hf hk hr]at hD
   refine zo hty Tryz.func12 rfl rfl rfl fun w0=>?_
   repeat'(first|exact absurd rfl ‹_›|(exfalso;omega)|(refine zhH (id:=3) ?_;refine zab (zp (l:=[(0,_),(3,_)]) (bl:=[(3,_)]) ⟨(zz rfl rfl),(zz rfl rfl),trivial⟩ ⟨(zw rfl rfl),trivial⟩) ?_;refine za ?_)|(refine zhH (id:=6) ?_;refine zab (zp (l:=[(0,_),(3,_),(5,_),(6,_)]) (bl:=[(3,_)]) ⟨(zz rfl rfl),(zz rfl rfl),(zz rfl rfl),(zz rfl rfl),trivial⟩ ⟨(zw rfl rfl),trivial⟩) ?_;refine za ?_)|(refine zhH (id:=7) ?_;refine zab (zp (l:=[(0,_),(3,_),(5,_),(7,_),(8,_)]) (bl:=[(3,_),(7,_)]) ⟨(zz rfl rfl),(zz rfl rfl),(zz rfl rfl),(zz rfl rfl),(zz rfl rfl),trivial⟩ ⟨(zw rfl rfl),(zw rfl rfl),trivial⟩) ?_;refine za ?_)|(refine zhH (id:=9) ?_;refine zab (zp (l:=[(0,_),(3,_),(5,_),(7,_)]) (bl:=[(3,_),(7,_)]) ⟨(zz rfl rfl),(zz rfl rfl),(zz rfl rfl),(zz rfl rfl),trivial⟩ ⟨(zw rfl rfl),(zw rfl rfl),trivial⟩) ?_;refine za ?_)|(refine zhH (id:=10) ?_;refine zab (zp (l:=[(0,_),(3,_),(5,_),(9,_),(10,_)]) (bl:=[(3,_),(9,_)]) ⟨(zz rfl rfl),(zz rfl rfl),(zz rfl rfl),(zz rfl rfl),(zz rfl rfl),trivial⟩ ⟨(zw rfl rfl),(zw rfl rfl),trivial⟩) ?_;refine za ?_)|(refine zhH (id:=13) ?_;refine zab (zp (l:=[(0,_),(3,_),(5,_),(9,_),(11,_),(12,_)]) (bl:=[(3,_),(9,_),(11,_)]) ⟨(zz rfl rfl),(zz rfl rfl),(zz rfl rfl),(zz rfl rfl),(zz rfl rfl),(zz rfl rfl),trivial⟩ ⟨(zw rfl rfl),(zw rfl rfl),(zw rfl rfl),trivial⟩) ?_;refine za ?_)|(refine zhH (id:=14) ?_;refine zab (zp (l:=[(11,_),(12,_),(13,_),(14,_)]) (bl:=[(11,_),(13,_)]) ⟨(zz rfl rfl),(zz rfl rfl),(zz rfl rfl),(zz rfl rfl),trivial⟩ ⟨(zw rfl rfl),(zw rfl rfl),trivial⟩) ?_;refine za ?_)|refine zL rfl he rfl (fun _=>?_) (fun _=>?_)|refine zL rfl hv rfl (fun _=>?_) (fun _=>?_)|refine zv 0 rfl hg rfl rfl rfl ?_|refine zv 0 rfl hck rfl rfl rfl ?_|refine zv 0 rfl hsz rfl rfl rfl ?_|refine zv 0 rfl hF rfl rfl rfl ?_|refine zv 0 rfl hA rfl rfl rfl ?_|refine zv 0 rfl hI rfl rfl rfl ?_|refine zv 0 rfl h2 rfl rfl rfl ?_|refine zv 0 rfl hR rfl rfl rfl ?_|refine zv 0 rfl hD rfl rfl rfl ?_|refine zv 0 rfl hw rfl rfl rfl ?_|exact absurd (by assumption) hr|refine WL_p hty rfl rfl ?_|refine zh ?_|refine zi ?_|refine za ?_|refine ze ?_|refine zd rfl ?_|refine zc rfl ?_|refine zg ?_|refine zx rfl rfl ?_|refine zq rfl rfl rfl ?_|refine zt rfl rfl rfl ?_|refine zr rfl rfl rfl ?_|refine zb rfl ?_|refine zj rfl rfl rfl rfl (fun _=>?_) (fun _=>?_)|refine zk rfl (fun _=>?_) (fun _=>?_))
   all_goals first
    |rfl
    |(exfalso;omega)
end Go.Proofs.YtoknnfhgoikpiaaGreat
