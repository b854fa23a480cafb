/- By a fuel of nought just what is normal is told; what fuel may be. -/
import Derived.Test.YtokfbblhjpfjkaaGreatGO
import Derived.Test.YtokfbblhjpfjkaaGreatGN
import Derived.Test.YtokfbblhjpfjkaaGreatGH
import Derived.Test.YtokfbblhjpfjkaaGreatGL
namespace Go.Proofs.YtokfbblhjpfjkaaGreat
set_option linter.unusedSimpArgs false
set_option linter.unusedVariables false
open Go.Aw Go.RowKit
attribute [local irreducible] WL AC WD WE MStep OkOp
attribute [local irreducible] zfd zvN
theorem zz8{lk:Tm→Option (Tm×Int)}{t:Tm}(hc:z8 t=0):zxF 0 lk t=(zc0 lk t).isNone:=by unfold zxF;rw[hc];rfl
set_option maxHeartbeats 16000000 in
theorem zBA(env:List En)(t:Tm)(h:zbJ env+t.size≤1048576):FC Tryz.prog 5 [sE env,aT t] (.bool true):=by
 have hp1:=t.size_pos
 have he:=znh env (by omega)
 have hv:=zfj t (by omega)
 have hg:=zrl env (by omega)
 have hck:=zo2 t (by omega)
 have hw:=zyT
 have hlk:=zuW env (by omega)
 by_cases hgo:envI env=0∧z8 t=0
 case neg=>
  refine zo hty Tryz.func5 rfl rfl rfl fun w0=>?_
  repeat'(first|(exfalso;omega)|refine zL rfl he rfl (fun _=>?_) (fun _=>?_)|refine zL rfl hv rfl (fun _=>?_) (fun _=>?_)|refine zv 0 rfl hg rfl rfl rfl ?_|refine zv 0 rfl hck rfl rfl rfl ?_|refine WL_p hty rfl rfl ?_|refine zh ?_|refine zi ?_|refine za ?_|refine ze ?_|refine zd rfl ?_|refine zbZ rfl ?_|refine zg ?_|refine zx rfl rfl ?_|refine zq rfl rfl rfl ?_|refine zot rfl rfl rfl ?_|refine zr rfl rfl rfl ?_|refine zb rfl ?_|refine zj rfl rfl rfl rfl (fun _=>?_) (fun _=>?_)|refine zk rfl (fun _=>?_) (fun _=>?_))
  all_goals first
   |rfl
   |(exfalso;omega)
 obtain⟨hE,hC⟩:=hgo
 rw[hE]at hg hlk
 rw[hC]at hck
 have h1:=zxV hlk t 0 (by omega)
 have h2:=zxV hlk t (-1) (by omega)
 have h3:=zxV hlk t 65537 (by omega)
 rw[zBU hC]at h1
 rw[zCh hC (by omega)]at h2 h3
 have hN:=zxr hlk t (by omega)
 rw[zz8 hC]at hN
 have kT:=zpx t (by omega)
 cases hp:zc0 (lookR env) t with
 |none=>
  rw[hp]at h1 hN
  dsimp only[goV]at h1 h2 h3
  refine zo hty Tryz.func5 rfl rfl rfl fun w0=>?_
  repeat'(first|exact absurd rfl ‹_›|(exfalso;omega)|(refine zhH (id:=3) ?_;refine zab (zfY (l:=[(0,_),(3,_)]) (bl:=[(3,_)]) ⟨(zz rfl rfl),(zz rfl rfl),trivial⟩ ⟨(zw rfl rfl),trivial⟩) ?_;refine za ?_)|(refine zhH (id:=4) ?_;refine zab (zfY (l:=[(0,_),(3,_),(5,_),(6,_),(7,_)]) (bl:=[(3,_),(5,_),(6,_)]) ⟨(zz rfl rfl),(zz rfl rfl),(zz rfl rfl),(zz rfl rfl),(zz rfl rfl),trivial⟩ ⟨(zw rfl rfl),(zw rfl rfl),(zw rfl rfl),trivial⟩) ?_;refine za ?_)|(refine zhH (id:=5) ?_;refine zab (zfY (l:=[(0,_),(3,_),(5,_),(6,_),(7,_),(10,_)]) (bl:=[(3,_),(5,_),(6,_)]) ⟨(zz rfl rfl),(zz rfl rfl),(zz rfl rfl),(zz rfl rfl),(zz rfl rfl),(zz rfl rfl),trivial⟩ ⟨(zw rfl rfl),(zw rfl rfl),(zw rfl rfl),trivial⟩) ?_;refine za ?_)|(refine zhH (id:=6) ?_;refine zab (zfY (l:=[(0,_),(3,_),(5,_),(6,_),(7,_),(10,_),(13,_)]) (bl:=[(3,_),(5,_),(6,_)]) ⟨(zz rfl rfl),(zz rfl rfl),(zz rfl rfl),(zz rfl rfl),(zz rfl rfl),(zz rfl rfl),(zz rfl rfl),trivial⟩ ⟨(zw rfl rfl),(zw rfl rfl),(zw rfl rfl),trivial⟩) ?_;refine za ?_)|(refine zhH (id:=8) ?_;refine zab (zfY (l:=[(0,_),(3,_),(5,_),(7,_)]) (bl:=[(3,_),(5,_)]) ⟨(zz rfl rfl),(zz rfl rfl),(zz rfl rfl),(zz rfl rfl),trivial⟩ ⟨(zw rfl rfl),(zw rfl rfl),trivial⟩) ?_;refine za ?_)|refine zL rfl he rfl (fun _=>?_) (fun _=>?_)|refine zL rfl hv rfl (fun _=>?_) (fun _=>?_)|refine zv 0 rfl hg rfl rfl rfl ?_|refine zv 0 rfl hck rfl rfl rfl ?_|refine zv 0 rfl h1 rfl rfl rfl ?_|refine zv 0 rfl h2 rfl rfl rfl ?_|refine zv 0 rfl h3 rfl rfl rfl ?_|refine zv 0 rfl hN rfl rfl rfl ?_|refine zv 0 rfl kT rfl rfl rfl ?_|refine zv 0 rfl hw rfl rfl rfl ?_|refine WL_p hty rfl rfl ?_|refine zh ?_|refine zi ?_|refine za ?_|refine ze ?_|refine zd rfl ?_|refine zbZ rfl ?_|refine zg ?_|refine zx rfl rfl ?_|refine zq rfl rfl rfl ?_|refine zot rfl rfl rfl ?_|refine zr rfl rfl rfl ?_|refine zb rfl ?_|refine zj rfl rfl rfl rfl (fun _=>?_) (fun _=>?_)|refine zk rfl (fun _=>?_) (fun _=>?_))
  all_goals rfl
 |some p=>
  rw[hp]at h1 hN
  dsimp only[goV]at h1 h2 h3
  refine zo hty Tryz.func5 rfl rfl rfl fun w0=>?_
  repeat'(first|exact absurd rfl ‹_›|(exfalso;omega)|(refine zhH (id:=3) ?_;refine zab (zfY (l:=[(0,_),(3,_)]) (bl:=[(3,_)]) ⟨(zz rfl rfl),(zz rfl rfl),trivial⟩ ⟨(zw rfl rfl),trivial⟩) ?_;refine za ?_)|(refine zhH (id:=4) ?_;refine zab (zfY (l:=[(0,_),(3,_),(5,_),(6,_),(7,_)]) (bl:=[(3,_),(5,_),(6,_)]) ⟨(zz rfl rfl),(zz rfl rfl),(zz rfl rfl),(zz rfl rfl),(zz rfl rfl),trivial⟩ ⟨(zw rfl rfl),(zw rfl rfl),(zw rfl rfl),trivial⟩) ?_;refine za ?_)|(refine zhH (id:=5) ?_;refine zab (zfY (l:=[(0,_),(3,_),(5,_),(6,_),(7,_),(10,_)]) (bl:=[(3,_),(5,_),(6,_)]) ⟨(zz rfl rfl),(zz rfl rfl),(zz rfl rfl),(zz rfl rfl),(zz rfl rfl),(zz rfl rfl),trivial⟩ ⟨(zw rfl rfl),(zw rfl rfl),(zw rfl rfl),trivial⟩) ?_;refine za ?_)|(refine zhH (id:=6) ?_;refine zab (zfY (l:=[(0,_),(3,_),(5,_),(6,_),(7,_),(10,_),(13,_)]) (bl:=[(3,_),(5,_),(6,_)]) ⟨(zz rfl rfl),(zz rfl rfl),(zz rfl rfl),(zz rfl rfl),(zz rfl rfl),(zz rfl rfl),(zz rfl rfl),trivial⟩ ⟨(zw rfl rfl),(zw rfl rfl),(zw rfl rfl),trivial⟩) ?_;refine za ?_)|(refine zhH (id:=8) ?_;refine zab (zfY (l:=[(0,_),(3,_),(5,_),(7,_)]) (bl:=[(3,_),(5,_)]) ⟨(zz rfl rfl),(zz rfl rfl),(zz rfl rfl),(zz rfl rfl),trivial⟩ ⟨(zw rfl rfl),(zw rfl rfl),trivial⟩) ?_;refine za ?_)|refine zL rfl he rfl (fun _=>?_) (fun _=>?_)|refine zL rfl hv rfl (fun _=>?_) (fun _=>?_)|refine zv 0 rfl hg rfl rfl rfl ?_|refine zv 0 rfl hck rfl rfl rfl ?_|refine zv 0 rfl h1 rfl rfl rfl ?_|refine zv 0 rfl h2 rfl rfl rfl ?_|refine zv 0 rfl h3 rfl rfl rfl ?_|refine zv 0 rfl hN rfl rfl rfl ?_|refine zv 0 rfl hw rfl rfl rfl ?_|refine WL_p hty rfl rfl ?_|refine zh ?_|refine zi ?_|refine za ?_|refine ze ?_|refine zd rfl ?_|refine zbZ rfl ?_|refine zg ?_|refine zx rfl rfl ?_|refine zq rfl rfl rfl ?_|refine zot rfl rfl rfl ?_|refine zr rfl rfl rfl ?_|refine zb rfl ?_|refine zj rfl rfl rfl rfl (fun _=>?_) (fun _=>?_)|refine zk rfl (fun _=>?_) (fun _=>?_))
  all_goals rfl
end Go.Proofs.YtokfbblhjpfjkaaGreat
