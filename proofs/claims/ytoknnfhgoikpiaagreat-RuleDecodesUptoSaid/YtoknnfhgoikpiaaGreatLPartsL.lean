/- What is done in a part is done in the whole, in plain words. -/
import Derived.Test.YtoknnfhgoikpiaaGreatGF
namespace Go.Proofs.YtoknnfhgoikpiaaGreat
set_option linter.unusedSimpArgs false
set_option linter.unusedVariables false
open Go.Aw Go.RowKit
theorem zgD{t:Tm}(h:z8 t≠0):zb6 t=(zT,z8 t):=by unfold zb6;rw[if_pos h]
theorem zhE{t:Tm}(h:z8 t=0):zb6 t=(t,0):=by unfold zb6;rw[if_neg (by omega)]
theorem zsO(u v:Tm): ∀ (p:List Int) (t:Tm),(zaZ t p).isSome=true→setT (setT t p u) p v=setT t p v
 |[],t,_=>rfl
 |k::p,t,h=>by
  simp only[zaZ]at h
  split at h
  ·rename_i hk
   simp only[setT,zhz,zqe,zrF]
   rw[zjw _ _ (by omega),List.set_set,zsO u v p _ h]
  ·cases h
theorem zpi(chk:Int)(lk:Tm→Option (Tm×Int))(t:Tm)(p:List Int)(h0:chk=0)(h1:z8 t=0):doR chk lk t p=if(makeR lk t p).2≠0 then(zT,(makeR lk t p).2)else((makeR lk t p).1,0):=by
 unfold doR;rw[if_neg (by omega),if_neg (by omega)]
theorem zgB{lk:Tm→Option (Tm×Int)}{t v:Tm}{p:List Int}{r:Tm×Int}(hf:zaZ t p=some v)(hk:lk v=some r)(hr:r.2=0):makeR lk t p=zb6 (setT t p r.1):=by
 unfold makeR;simp only[hf,hk];rw[if_neg (by omega)]
theorem zgN(x:Tm):(if(zb6 x).2≠0 then(zT,(zb6 x).2)else((zb6 x).1,0))=zb6 x:=by
 by_cases h:z8 x=0
 ·rw[zhE h];rfl
 ·rw[zgD h,if_pos h]
theorem parts{chk:Int}{lk:Tm→Option (Tm×Int)}{t u:Tm}{p q:List Int}(h:(putR t p u).2=0):
 ((doR chk lk u q).2≠0→(doR chk lk (putR t p u).1 (p++q)).2=(doR chk lk u q).2∨(doR chk lk (putR t p u).1 (p++q)).2≠0)∧
 ((doR chk lk u q).2=0→doR chk lk (putR t p u).1 (p++q)=putR (putR t p u).1 p (doR chk lk u q).1):=by
 obtain⟨b1,b2,b3,b4,b5⟩:=ztX h
 rw[b5]
 generalize hW:setT t p u=W at b4
 have hfW:zaZ W p=some u:=by rw[←hW];exact zva u p t b3
 have hfq:zaZ W (p++q)=zaZ u q:=by rw[zeP,hfW];rfl
 have hsW: ∀ v,setT W (p++q) v=setT W p (setT u q v):=fun v=>ziP q v p W u hfW
 by_cases h0:chk=0
 ·rw[zpi chk lk u q h0 b2,zpi chk lk W (p++q) h0 b4]
  cases hf:zaZ u q with
  |none=>
   rw[hf]at hfq
   have m1:makeR lk u q=(zT,10):=by unfold makeR;rw[hf]
   have m2:makeR lk W (p++q)=(zT,10):=by unfold makeR;rw[hfq]
   rw[m1,m2]
   exact⟨fun _=>.inl rfl,fun e=>by cases e⟩
  |some v=>
   rw[hf]at hfq
   cases hk:lk v with
   |none=>
    have m1:makeR lk u q=(zT,10):=by unfold makeR;simp only[hf,hk]
    have m2:makeR lk W (p++q)=(zT,10):=by unfold makeR;simp only[hfq,hk]
    rw[m1,m2]
    exact⟨fun _=>.inl rfl,fun e=>by cases e⟩
   |some r=>
    by_cases hr:r.2=0
    ·rw[zgB hf hk hr,zgB hfq hk hr,zgN,zgN,hsW]
     by_cases hc:z8 (setT u q r.1)=0
     ·rw[zhE hc]
      refine⟨fun e=>absurd rfl e,fun _=>?_⟩
      unfold putR
      rw[if_neg (by omega),if_neg (by simp only;omega),if_pos (by rw[hfW];rfl)]
     ·rw[zgD hc]
      refine⟨fun _=>.inr fun e=>hc ?_,fun e=>absurd e hc⟩
      by_cases hc2:z8 (setT W p (setT u q r.1))=0
      ·exact zql hc2 (zva _ p W (by rw[hfW];rfl))
      ·rw[zgD hc2]at e;exact absurd e hc2
    ·have m1:makeR lk u q=(zT,r.2):=by unfold makeR;simp only[hf,hk];rw[if_pos hr]
     have m2:makeR lk W (p++q)=(zT,r.2):=by unfold makeR;simp only[hfq,hk];rw[if_pos hr]
     rw[m1,m2]
     exact⟨fun _=>.inl rfl,fun e=>by rw[if_pos hr]at e;exact absurd e hr⟩
 ·have d1:doR chk lk u q=(zT,chk):=by unfold doR;rw[if_pos h0]
  have d2:doR chk lk W (p++q)=(zT,chk):=by unfold doR;rw[if_pos h0]
  rw[d1,d2]
  exact⟨fun _=>.inl rfl,fun e=>absurd e h0⟩
end Go.Proofs.YtoknnfhgoikpiaaGreat
