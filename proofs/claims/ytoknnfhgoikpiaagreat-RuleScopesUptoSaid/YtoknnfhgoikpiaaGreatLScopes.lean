/- What is in scope of some variables, and of the row, is reduced to what is in sco -/
import Derived.Test.YtoknnfhgoikpiaaGreatLScopeS
import Derived.Test.YtoknnfhgoikpiaaGreatGN
import Derived.Test.YtoknnfhgoikpiaaGreatGJ
import Derived.Test.YtoknnfhgoikpiaaGreatGH
import Derived.Test.YtoknnfhgoikpiaaGreatGG
import Derived.Test.YtoknnfhgoikpiaaGreatGL
namespace Go.Proofs.YtoknnfhgoikpiaaGreat
set_option linter.unusedSimpArgs false
set_option linter.unusedVariables false
open Go.Aw Go.RowKit
attribute [local irreducible] WL AC WD WE MStep OkOp
attribute [local irreducible] zfd zvN
theorem zyk{env:List En}{t:Tm}{v:Int}(hE:envI env=0)(hs:zcY t v (env.length:Nat)=true):(rootR env t).2=0→zcY (rootR env t).1 v (env.length:Nat)=true:=by
 intro h0
 unfold zcY at hs
 simp only[Bool.and_eq_true,decide_eq_true_eq]at hs
 obtain⟨h1,h2,h3,h4⟩:=hs
 unfold rootR at h0⊢
 rw[if_neg (by omega),if_neg (by omega)]at h0⊢
 cases hl:lookR env t with
 |none=>rw[hl]at h0;cases h0
 |some r=>
  rw[hl]at h0
  simp only at h0⊢
  by_cases hr:r.2=0
  ·rw[if_neg (by omega)]
   have hv:0≤(if 1048576 <v then(1048576:Int)else v):=by split <;>omega
   unfold zcY
   simp only[Bool.and_eq_true,decide_eq_true_eq]
   exact⟨h1,h2,zwS hE h3 hl hr,zyb hE hv hl hr h4⟩
  ·rw[if_pos hr]at h0;exact absurd h0 hr
set_option maxHeartbeats 8000000 in
theorem zxz(env:List En)(t:Tm)(vars:Int)(h:zbJ env+t.size≤1048576):FC Tryz.prog 4 [sE env,aT t,.int .i64 vars] (.bool true):=by
 have he:=znh env (by omega)
 have hv:=zfj t (by omega)
 have hg:=zrl env (by omega)
 have hw:=zyn
 have hlen:=zbU env
 have hrl:=zaW env
 obtain⟨_,k,hk,hke⟩:=zyq vars (m:=20) (by omega) (by omega)
 have z:(20:Int)≠0:=by decide
 have hw20:IntKind.u64.wrap ((20:Nat):Int)=20:=by decide
 have hum:IntKind.i64.wrap ((IntKind.u64.wrap vars).tmod 20)=(k:Int):=by rw[←hke];unfold zyH;rw[hw20]
 have hS:=zfe t (k:Int) (env.length:Nat) (by omega)
 have hR:=zwU env t (by omega) (by omega)
 have hq:=fun hE:envI env=0=>fun hs=>zyk (env:=env) (t:=t) (v:=(k:Int)) hE hs
 have hsz:(rootR env t).1.size≤1048576:=by
  unfold rootR
  split
  ·exact(by decide:zT.size≤1048576)
  ·split
   ·exact(by decide:zT.size≤1048576)
   ·rename_i q
    have hts:=(zcH (Classical.not_not.1 q)).1
    split
    ·exact(by decide:zT.size≤1048576)
    ·rename_i r hr
     split
     ·exact(by decide:zT.size≤1048576)
     ·show r.1.size≤1048576
      exact zpq (env:=env) (by omega) hts hr
 have hS2:=zfe (rootR env t).1 (k:Int) (env.length:Nat) hsz
 rw[←hrl, ←hum]at hS hS2
 rw[←hrl, ←hum]at hq
 generalize rootR env t=R at hR hS2 hq
 generalize zcY t (IntKind.i64.wrap ((IntKind.u64.wrap vars).tmod 20)) ((rsE env).length:Nat)=s1 at hS hq
 generalize zcY R.1 (IntKind.i64.wrap ((IntKind.u64.wrap vars).tmod 20)) ((rsE env).length:Nat)=s2 at hS2 hq
 refine zo hty Tryz.func4 rfl rfl rfl fun w0=>?_
 repeat'(first|exact absurd rfl ‹_›|refine zL rfl he rfl (fun _=>?_) (fun _=>?_)|refine zL rfl hv rfl (fun _=>?_) (fun _=>?_)|refine zv 0 rfl hg rfl rfl rfl ?_|refine WL_m rfl (zx2 rfl zyX zy0 rfl) ?_|refine WL_m rfl (zx2 rfl zyZ zy2 rfl) ?_|refine WL_m rfl (zyW rfl rfl z rfl) ?_|refine zL rfl hS rfl (fun _=>?_) (fun _=>?_)|refine zv 0 rfl hR rfl rfl rfl ?_|refine zL rfl hS2 rfl (fun _=>?_) (fun _=>?_)|refine zv 0 rfl hw rfl rfl rfl ?_|refine WL_p hty rfl rfl ?_|refine zh ?_|refine zi ?_|refine za ?_|refine ze ?_|refine zd rfl ?_|refine zc rfl ?_|refine zg ?_|refine zx rfl rfl ?_|refine zq rfl rfl rfl ?_|refine zt rfl rfl rfl ?_|refine zr rfl rfl rfl ?_|refine zb rfl ?_|refine zj rfl rfl rfl rfl (fun _=>?_) (fun _=>?_)|refine zk rfl (fun _=>?_) (fun _=>?_))
 all_goals first
  |rfl
  |(exfalso;have e:=hq (by omega) (by assumption) (by omega);simp_all;done)
end Go.Proofs.YtoknnfhgoikpiaaGreat
