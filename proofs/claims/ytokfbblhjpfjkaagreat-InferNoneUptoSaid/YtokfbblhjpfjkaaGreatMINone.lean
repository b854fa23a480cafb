/- What is no function is not applied, what is no pair has no halves, what is no ty -/
import Derived.Test.YtokfbblhjpfjkaaGreatMDocX
import Derived.Test.YtokfbblhjpfjkaaGreatMInferP
import Derived.Test.YtokfbblhjpfjkaaGreatMIIds
set_option linter.unusedSimpArgs false
set_option linter.unusedVariables false
namespace Go.Proofs.YtokfbblhjpfjkaaGreat
open Go.Aw Go.RowKit
attribute [local irreducible] WL AC WD WE MStep OkOp
attribute [local irreducible] zfd zvN
set_option maxHeartbeats 32000000 in
theorem zFz(env:List En)(ctx:List Tm)(t a:Tm)(h:zbJ env+sizes ctx+t.size+a.size≤400000):FC Tryz.prog 10 [sE env,sT ctx,aT t,aT a] (.bool true):=by
 have he:=znh env (by omega)
 have hx:=zD0 ctx (by omega)
 have hv:=ztW t a (by simp only[sizes];omega)
 have hw:=zDE
 have hd:=zHN env ctx (by omega) (by omega)
 have t6:=rt2 6 t a
 have t9:=rt1 9 t
 have t10:=rt1 10 t
 have t5:=rt2 5 t a
 have t12:=rt2 12 t a
 have z2: ∀ k:Int,(Tm.mk k 0 [t,a]).size=1+(t.size+(a.size+0)):=fun k=>by simp only[Tm.size,sizes]
 have z1: ∀ k:Int,(Tm.mk k 0 [t]).size=1+(t.size+0):=fun k=>by simp only[Tm.size,sizes]
 have kc:=zo2 (.mk 6 0 [t,a]) (by rw[z2];omega)
 have hT:=zCz env ctx t 100 (by omega) (by omega) (by omega)
 have h6:=zCz env ctx (.mk 6 0 [t,a]) 100 (by omega) (by omega) (by rw[z2];omega)
 have h9:=zCz env ctx (.mk 9 0 [t]) 100 (by omega) (by omega) (by rw[z1];omega)
 have h10:=zCz env ctx (.mk 10 0 [t]) 100 (by omega) (by omega) (by rw[z1];omega)
 have h5:=zCz env ctx (.mk 5 0 [t,a]) 100 (by omega) (by omega) (by rw[z2];omega)
 have h12:=zCz env ctx (.mk 12 0 [t,a]) 100 (by omega) (by omega) (by rw[z2];omega)
 have p:=zHD (env:=env) (ctx:=ctx) (t:=t) (a:=a) (F:=100)
 rw[zHr]at hT h6 h9 h10 h5 h12
 generalize zzQ env ctx t 100=R0 at hT p
 generalize zzQ env ctx (.mk 6 0 [t,a]) 100=R6 at h6 p
 generalize zzQ env ctx (.mk 9 0 [t]) 100=R9 at h9 p
 generalize zzQ env ctx (.mk 10 0 [t]) 100=R10 at h10 p
 generalize zzQ env ctx (.mk 5 0 [t,a]) 100=R5 at h5 p
 generalize zzQ env ctx (.mk 12 0 [t,a]) 100=R12 at h12 p
 generalize checkT (.mk 6 0 [t,a])=ec at kc p
 obtain⟨x,_,_,e0⟩:=R0
 obtain⟨_,_,_,e6⟩:=R6
 obtain⟨_,_,_,e9⟩:=R9
 obtain⟨_,_,_,e10⟩:=R10
 obtain⟨_,_,_,e5⟩:=R5
 obtain⟨_,_,_,e12⟩:=R12
 dsimp only at hT h6 h9 h10 h5 h12 p
 have p:e0=0→ec=0→(x.kind≠4→e6=8)∧(x.kind≠7→e9=8∧e10=8)∧(x.kind≠2→e5=8∧e12=8)∧(x.kind=7→e9=0):=p
 refine zo hty Tryz.func10 rfl rfl rfl fun w0=>?_
 repeat'(first|refine zL rfl he rfl (fun _=>?_) (fun _=>?_)|refine zL rfl hx rfl (fun _=>?_) (fun _=>?_)|refine zL rfl hv rfl (fun _=>?_) (fun _=>?_)|refine zv 0 rfl hd rfl rfl rfl ?_|refine zv 0 rfl hT rfl rfl rfl ?_|refine zv 0 rfl kc rfl rfl rfl ?_|refine zv 0 rfl t6 rfl rfl rfl ?_|refine WL_m rfl (zct 0 rfl rfl rfl t6 rfl rfl rfl) ?_|refine WL_m rfl (zct 0 rfl rfl rfl t9 rfl rfl rfl) ?_|refine WL_m rfl (zct 0 rfl rfl rfl t10 rfl rfl rfl) ?_|refine WL_m rfl (zct 0 rfl rfl rfl t5 rfl rfl rfl) ?_|refine WL_m rfl (zct 0 rfl rfl rfl t12 rfl rfl rfl) ?_|refine zv 0 rfl h6 rfl rfl rfl ?_|refine zv 0 rfl h9 rfl rfl rfl ?_|refine zv 0 rfl h10 rfl rfl rfl ?_|refine zv 0 rfl h5 rfl rfl rfl ?_|refine zv 0 rfl h12 rfl rfl rfl ?_|refine zv 0 rfl hw rfl rfl rfl ?_|(refine zhH (id:=3) ?_;refine zab (zfY (l:=[(0,_),(1,_),(6,_),(7,_)]) (bl:=[(6,_),(7,_)]) ⟨zz rfl rfl,zz rfl rfl,zz rfl rfl,zz rfl rfl,trivial⟩ ⟨zw rfl rfl,zw rfl rfl,trivial⟩) ?_;refine za ?_)|(refine zhH (id:=4) ?_;refine zab (zfY (l:=[(0,_),(1,_),(6,_),(7,_),(9,_),(12,_)]) (bl:=[(6,_),(7,_),(9,_)]) ⟨zz rfl rfl,zz rfl rfl,zz rfl rfl,zz rfl rfl,zz rfl rfl,zz rfl rfl,trivial⟩ ⟨zw rfl rfl,zw rfl rfl,zw rfl rfl,trivial⟩) ?_;refine za ?_)|(refine zhH (id:=7) ?_;refine zab (zfY (l:=[(0,_),(1,_),(6,_),(7,_),(9,_),(13,_)]) (bl:=[(6,_),(7,_),(9,_)]) ⟨zz rfl rfl,zz rfl rfl,zz rfl rfl,zz rfl rfl,zz rfl rfl,zz rfl rfl,trivial⟩ ⟨zw rfl rfl,zw rfl rfl,zw rfl rfl,trivial⟩) ?_;refine za ?_)|(refine zhH (id:=8) ?_;refine zab (zfY (l:=[(0,_),(1,_),(6,_),(7,_),(9,_),(13,_),(17,_)]) (bl:=[(6,_),(7,_),(9,_)]) ⟨zz rfl rfl,zz rfl rfl,zz rfl rfl,zz rfl rfl,zz rfl rfl,zz rfl rfl,zz rfl rfl,trivial⟩ ⟨zw rfl rfl,zw rfl rfl,zw rfl rfl,trivial⟩) ?_;refine za ?_)|(refine zhH (id:=9) ?_;refine zab (zfY (l:=[(0,_),(1,_),(6,_),(7,_),(9,_),(13,_),(17,_),(21,_)]) (bl:=[(6,_),(7,_),(9,_)]) ⟨zz rfl rfl,zz rfl rfl,zz rfl rfl,zz rfl rfl,zz rfl rfl,zz rfl rfl,zz rfl rfl,zz rfl rfl,trivial⟩ ⟨zw rfl rfl,zw rfl rfl,zw rfl rfl,trivial⟩) ?_;refine za ?_)|(refine zhH (id:=10) ?_;refine zab (zfY (l:=[(0,_),(1,_),(6,_),(7,_),(9,_),(13,_),(17,_),(21,_),(25,_)]) (bl:=[(6,_),(7,_),(9,_)]) ⟨zz rfl rfl,zz rfl rfl,zz rfl rfl,zz rfl rfl,zz rfl rfl,zz rfl rfl,zz rfl rfl,zz rfl rfl,zz rfl rfl,trivial⟩ ⟨zw rfl rfl,zw rfl rfl,zw rfl rfl,trivial⟩) ?_;refine za ?_)|(refine zhH (id:=11) ?_;refine zab (zfY (l:=[(0,_),(1,_),(6,_),(7,_),(9,_),(13,_),(17,_),(21,_),(25,_),(29,_)]) (bl:=[(6,_),(7,_),(9,_)]) ⟨zz rfl rfl,zz rfl rfl,zz rfl rfl,zz rfl rfl,zz rfl rfl,zz rfl rfl,zz rfl rfl,zz rfl rfl,zz rfl rfl,zz rfl rfl,trivial⟩ ⟨zw rfl rfl,zw rfl rfl,zw rfl rfl,trivial⟩) ?_;refine za ?_)|(refine zhH (id:=12) ?_;refine zab (zfY (l:=[(9,_),(17,_),(21,_),(25,_),(29,_),(33,_)]) (bl:=[(9,_)]) ⟨zz rfl rfl,zz rfl rfl,zz rfl rfl,zz rfl rfl,zz rfl rfl,zz rfl rfl,trivial⟩ ⟨zw rfl rfl,trivial⟩) ?_;refine za ?_)|(refine zhH (id:=14) ?_;refine zab (zfY (l:=[(9,_),(21,_)]) (bl:=[(9,_)]) ⟨zz rfl rfl,zz rfl rfl,trivial⟩ ⟨zw rfl rfl,trivial⟩) ?_;refine za ?_)|refine WL_p hty rfl rfl ?_|refine zh ?_|refine zi ?_|refine za ?_|refine zxg ?_|refine zd rfl ?_|refine zbZ rfl ?_|refine zg ?_|refine zx rfl rfl ?_|refine zq rfl rfl rfl ?_|refine zot rfl rfl rfl ?_|refine zr rfl rfl rfl ?_|refine zb rfl ?_|refine zj rfl rfl rfl rfl (fun _=>?_) (fun _=>?_))
 all_goals first
  |rfl
  |(exfalso;have:=p (by omega) (by omega);omega)
end Go.Proofs.YtokfbblhjpfjkaaGreat
