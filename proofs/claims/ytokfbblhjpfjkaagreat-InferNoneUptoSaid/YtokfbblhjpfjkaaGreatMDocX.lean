/- The document's: is a context right? -/
import Derived.Test.YtokfbblhjpfjkaaGreatMInfW
import Derived.Test.YtokfbblhjpfjkaaGreatHL
set_option linter.unusedSimpArgs false
set_option linter.unusedVariables false
namespace Go.Proofs.YtokfbblhjpfjkaaGreat
open Go.Aw Go.RowKit
attribute [local irreducible] WL AC WD WE MStep OkOp
theorem zGx(env:List En)(ctx:List Tm)(hE:zbJ env≤1048576)(hx:sizes ctx≤1048576):FC Tryz.prog 61 [sE env,sT ctx] (.int .i64 (zDa env ctx)):=by
 have hlen:=zM ctx
 have hr:=zeb ctx
 have hre:=zaW env
 by_cases hb:40 <(ctx.length:Int)
 ·have he:zDa env ctx=13:=by unfold zDa;rw[if_pos hb]
  rw[he]
  refine zo hty Tryz.func61 rfl rfl rfl fun w0=>?_
  repeat'(first|(rename_i hc;exact absurd hb (by omega))|refine WL_p hty rfl rfl ?_|refine zh ?_|refine zi ?_|refine za ?_|refine zd rfl ?_|refine zg ?_|refine zj rfl rfl rfl rfl (fun _=>?_) (fun _=>?_))
  all_goals exact zaQ rfl rfl
 ·refine zo hty Tryz.func61 rfl rfl rfl fun w0=>?_
  repeat'(first|(rename_i hc;exact absurd hc (by omega))|refine WL_p hty rfl rfl ?_|refine zh ?_|refine zi ?_|refine za ?_|refine zf ?_|refine zxg ?_|refine zbZ rfl ?_|refine zj rfl rfl rfl rfl (fun _=>?_) (fun _=>?_))
  refine zW ctx.length (fun i=> ∀ j,j <i→ ∀ a,ctx[j]? =some a→zcY a (j:Nat) (env.length:Nat)=true) (fun i=>⟨envOf [(0,sE env),(1,sT ctx),(5,.int .i64 (i:Nat))],bkOf []⟩)
   (zfY ⟨zz rfl rfl,zz rfl rfl,zz rfl rfl,trivial⟩ trivial) (fun j hj=>by omega) ?_
  intro i hi hI
  repeat'(first|refine WL_p hty rfl rfl ?_|refine zi ?_|refine za ?_)
  refine zj rfl rfl rfl rfl (fun hc=>?_) (fun hc=>?_)
  ·have hlt:i <ctx.length:=by omega
   obtain⟨a,ha,hmem⟩:=zA hlt
   have ra:=zac ha
   have has:=zK hmem
   have hsc2:FC Tryz.prog 83 [aT a,.int .i64 (i:Nat),.int .i64 ((rsE env).length:Nat)] (.bool (zcY a (i:Nat) (env.length:Nat))):=by
    rw[hre];exact zgz a (i:Nat) (env.length:Nat) (by omega)
   cases hq:zcY a (i:Nat) (env.length:Nat)with
   |true=>
    rw[hq]at hsc2
    repeat'(first|refine zv 0 rfl hsc2 rfl rfl rfl ?_|refine WL_p hty rfl rfl ?_|refine zh ?_|refine zi ?_|refine za ?_|refine zf ?_|refine zxg ?_|refine zd rfl ?_|refine zbZ rfl ?_|refine WL_m rfl (zm hty rfl rfl rfl (by assumption) rfl) ?_)
    refine⟨hlt,fun j hj b hb2=>?_,(zfY ⟨zz rfl rfl,zz rfl rfl,⟨_,rfl,zO ?_ rfl⟩,trivial⟩ trivial)⟩
    ·by_cases e:j=i
     ·subst e
      rw[ha]at hb2
      obtain rfl:=Option.some.inj hb2
      exact hq
     ·exact hI j (by omega) b hb2
    ·exact congrArg (AV.int .i64) ((zy (by omega) (by omega)).trans (by omega))
   |false=>
    rw[hq]at hsc2
    have hz:=zHy hb ha hq
    rw[hz]
    repeat'(first|refine zv 0 rfl hsc2 rfl rfl rfl ?_|refine WL_p hty rfl rfl ?_|refine zh ?_|refine zi ?_|refine za ?_|refine zf ?_|refine zxg ?_|refine zd rfl ?_|refine zg ?_|refine WL_m rfl (zm hty rfl rfl rfl (by assumption) rfl) ?_)
    all_goals exact zaQ rfl rfl
  ·obtain rfl:i=ctx.length:=by omega
   rw[zHl hb fun j a ha=>hI j ((List.getElem?_eq_some_iff.1 ha).1) a ha]
   repeat'(first|refine WL_p hty rfl rfl ?_|refine zh ?_|refine zi ?_|refine za ?_|refine zbZ rfl ?_|refine zl ?_|refine zg ?_)
   all_goals exact zaQ rfl rfl
theorem zHN(env:List En)(ctx:List Tm)(hE:zbJ env≤1048576)(hx:sizes ctx≤1048576):FC Tryz.prog 36 [sE env,sT ctx] (.int .i64 (ctxR env ctx)):=by
 have h1:=zrl env hE
 have h2:=zGx env ctx hE hx
 unfold ctxR
 by_cases h0:zCC env=0
 ·rw[if_neg (fun q=>q h0)]
  rw[h0]at h1
  refine zo hty Tryz.func36 rfl rfl rfl fun w0=>?_
  repeat'(first|exact absurd rfl ‹_›|refine zv 0 rfl h1 rfl rfl rfl ?_|refine zv 0 rfl h2 rfl rfl rfl ?_|refine WL_p hty rfl rfl ?_|refine zh ?_|refine zi ?_|refine za ?_|refine zxg ?_|refine zbZ rfl ?_|refine zg ?_|refine zj rfl rfl rfl rfl (fun _=>?_) (fun _=>?_))
  all_goals exact zaQ rfl rfl
 ·rw[if_pos h0]
  refine zo hty Tryz.func36 rfl rfl rfl fun w0=>?_
  repeat'(first|exact absurd h0 (by assumption)|refine zv 0 rfl h1 rfl rfl rfl ?_|refine WL_p hty rfl rfl ?_|refine zh ?_|refine zi ?_|refine za ?_|refine zd rfl ?_|refine zg ?_|refine zj rfl rfl rfl rfl (fun _=>?_) (fun _=>?_))
  all_goals exact zaQ rfl rfl
end Go.Proofs.YtokfbblhjpfjkaaGreat
