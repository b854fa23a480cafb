/- Steps at two places neither of which is in the other may be done in either order -/
import Derived.Test.YtoknnfhgoikpiaaGreatLSwapsW
import Derived.Test.YtoknnfhgoikpiaaGreatLParts
import Derived.Test.YtoknnfhgoikpiaaGreatGL
namespace Go.Proofs.YtoknnfhgoikpiaaGreat
set_option linter.unusedSimpArgs false
set_option linter.unusedVariables false
open Go.Aw Go.RowKit
attribute [local irreducible] WL AC WD WE MStep OkOp
set_option maxHeartbeats 16000000 in
theorem zi2(env:List En)(t:Tm)(a b:List Int)(h:zbJ env+t.size+a.length+b.length≤1048576):FC Tryz.prog 8 [sE env,aT t,sI a,sI b] (.bool true):=by
 have hp1:=t.size_pos
 have he:=znh env (by omega)
 have hv:FC Tryz.prog 16 [.lst 3 [cT t] true] (.bool (zbk [t])):=by
  have h1:=zde [t] (by simp only[sizes];omega)
  simp only[sT,rs1]at h1
  exact h1.args (.cons (.full _ _ _) .nil)
 have hg:=zrl env (by omega)
 have hw:=zlL
 have hlk:=zuW env (by omega)
 have i1:=ziw a b (by omega) (by omega)
 have i2:=ziw b a (by omega) (by omega)
 have hX:=zgV hlk t a (by omega) (by omega)
 have zX:=zj0 (chk:=envI env) (lk:=lookR env) (t:=t) (p:=a)
 have hY:=zgV hlk t b (by omega) (by omega)
 have zY:=zj0 (chk:=envI env) (lk:=lookR env) (t:=t) (p:=b)
 have hC:=zgV hlk (doR (envI env) (lookR env) t a).1 b (by omega) (by omega)
 have hD:=zgV hlk (doR (envI env) (lookR env) t b).1 a (by omega) (by omega)
 have kCD:=zcZ (doR (envI env) (lookR env) (doR (envI env) (lookR env) t a).1 b).1 (doR (envI env) (lookR env) (doR (envI env) (lookR env) t b).1 a).1 (by
  have:=zj0 (chk:=envI env) (lk:=lookR env) (t:=(doR (envI env) (lookR env) t a).1) (p:=b);omega)
 have l0:zbi a b=false→zbi b a=false→(doR (envI env) (lookR env) t a).2=0→(doR (envI env) (lookR env) t b).2=0→_:=fun w1 w2 ha hb=>zvn (chk:=envI env) (lk:=lookR env) (t:=t) ha hb (zuk a b w1 w2)
 have l1:zbi a b=false→zbi b a=false→(doR (envI env) (lookR env) t a).2=0→(doR (envI env) (lookR env) t b).2=0→(doR (envI env) (lookR env) (doR (envI env) (lookR env) t a).1 b).2=0→(doR (envI env) (lookR env) (doR (envI env) (lookR env) t b).1 a).2=0→
  decide ((doR (envI env) (lookR env) (doR (envI env) (lookR env) t a).1 b).1=(doR (envI env) (lookR env) (doR (envI env) (lookR env) t b).1 a).1)=true:=fun w1 w2 ha hb hc hd=>decide_eq_true ((l0 w1 w2 ha hb).2 hc hd)
 have l2:zbi a b=false→zbi b a=false→(doR (envI env) (lookR env) t a).2=0→(doR (envI env) (lookR env) t b).2=0→(doR (envI env) (lookR env) (doR (envI env) (lookR env) t a).1 b).2≠10:=fun w1 w2 ha hb=>(l0 w1 w2 ha hb).1
 clear l0
 generalize decide ((doR (envI env) (lookR env) (doR (envI env) (lookR env) t a).1 b).1=(doR (envI env) (lookR env) (doR (envI env) (lookR env) t b).1 a).1)=z at kCD l1
 generalize doR (envI env) (lookR env) (doR (envI env) (lookR env) t a).1 b=C at hC kCD l1 l2
 generalize doR (envI env) (lookR env) (doR (envI env) (lookR env) t b).1 a=D at hD kCD l1
 generalize doR (envI env) (lookR env) t a=X at hX hC zX l1 l2
 generalize doR (envI env) (lookR env) t b=Y at hY hD zY l1 l2
 generalize envI env=g at hg
 generalize zbi a b=w1 at i1 l1 l2
 generalize zbi b a=w2 at i2 l1 l2
 refine zo hty Tryz.func8 rfl rfl rfl fun w0=>?_
 repeat'(first|(refine zhH (id:=5) ?_;refine zab (zp (l:=[(0,_),(2,_),(3,_),(5,_),(8,_)]) (bl:=[(5,_)]) ⟨(zz rfl rfl),(zz rfl rfl),(zz rfl rfl),(zz rfl rfl),(zz rfl rfl),trivial⟩ ⟨(zw rfl rfl),trivial⟩) ?_;refine za ?_)|(refine zhH (id:=7) ?_;refine zab (zp (l:=[(0,_),(2,_),(3,_),(9,_),(10,_),(11,_),(12,_)]) (bl:=[(9,_),(11,_)]) ⟨(zz rfl rfl),(zz rfl rfl),(zz rfl rfl),(zz rfl rfl),(zz rfl rfl),(zz rfl rfl),(zz rfl rfl),trivial⟩ ⟨(zw rfl rfl),(zw rfl rfl),trivial⟩) ?_;refine za ?_)|(refine zhH (id:=11) ?_;refine zab (zp (l:=[(0,_),(3,_),(9,_),(10,_),(12,_),(13,_),(14,_)]) (bl:=[(9,_),(13,_),(14,_)]) ⟨(zz rfl rfl),(zz rfl rfl),(zz rfl rfl),(zz rfl rfl),(zz rfl rfl),(zz rfl rfl),(zz rfl rfl),trivial⟩ ⟨(zw rfl rfl),(zw rfl rfl),(zw rfl rfl),trivial⟩) ?_;refine za ?_)|refine zL rfl he rfl (fun _=>?_) (fun _=>?_)|refine zL rfl hv rfl (fun _=>?_) (fun _=>?_)|refine zv 0 rfl hg rfl rfl rfl ?_|refine zL rfl i1 rfl (fun _=>?_) (fun _=>?_)|refine zL rfl i2 rfl (fun _=>?_) (fun _=>?_)|refine zv 0 rfl hX rfl rfl rfl ?_|refine zv 0 rfl hY rfl rfl rfl ?_|refine zv 0 rfl hC rfl rfl rfl ?_|refine zv 0 rfl hD rfl rfl rfl ?_|refine zL rfl kCD rfl (fun _=>?_) (fun _=>?_)|refine zv 0 rfl hw rfl rfl rfl ?_|exact absurd (by assumption) (l2 (by assumption) (by assumption) (by omega) (by omega))|refine WL_p hty rfl rfl ?_|refine zh ?_|refine zi ?_|refine za ?_|refine ze ?_|refine zd rfl ?_|refine zc rfl ?_|refine zg ?_|refine zx rfl rfl ?_|refine zq rfl rfl rfl ?_|refine zt rfl rfl rfl ?_|refine zr rfl rfl rfl ?_|refine zb rfl ?_|refine zj rfl rfl rfl rfl (fun _=>?_) (fun _=>?_)|refine zk rfl (fun _=>?_) (fun _=>?_))
 all_goals first
  |rfl
  |(exfalso;have e:=l2 (by assumption) (by assumption) (by omega) (by omega);omega)
  |(exfalso;have e:=l1 (by assumption) (by assumption) (by omega) (by omega) (by omega) (by omega);simp_all;done)
end Go.Proofs.YtoknnfhgoikpiaaGreat
