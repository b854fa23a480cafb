/- A term that has a type is in scope of its context; so is the type. -/
import Derived.Test.YtokfbblhjpfjkaaGreatMInferC
import Derived.Test.YtokfbblhjpfjkaaGreatMScopeS
set_option linter.unusedSimpArgs false
set_option linter.unusedVariables false
namespace Go.Proofs.YtokfbblhjpfjkaaGreat
open Go.Aw Go.RowKit
theorem zCE{t:Tm}(h:checkT t=0):(t.kids.length:Int)=kidsR t.kind:=by
 have hf:=za9 t
 rw[(zcH h).2.2]at hf
 have:=hf.symm
 rw[Bool.and_eq_true,Bool.and_eq_true]at this
 exact of_decide_eq_true this.1.1
section
variable {σ α β:Type}
def NS(N:σ→Tm→Tm×Int×σ)(c:Int):Prop:= ∀ s t v,0≤v→(N s t).2.1=0→zbx t v c=true→zbx (N s t).1 v c=true
variable {N:σ→Tm→Tm×Int×σ} {c v:Int} (hN:NK N) (hS:NS N c) (hv:0≤v)
abbrev Sd(c v:Int)(u:Tm):Prop:=C0 u∧zbx u v c=true
include hN hS hv in
end
section
variable {σ:Type} {N:σ→Tm→Tm×Int×σ} {env:List En} (hN:NK N) (hS:NS N (env.length:Nat)) (he: ∀ e,e∈env→C0 e.typ∧zbx e.typ 0 (env.length:Nat)=true)
def CtxS(env:List En)(ctx:List Tm):Prop:= ∀ (i:Nat) x,ctx[i]? =some x→C0 x∧zbx x (i:Nat) (env.length:Nat)=true
abbrev Ts(env:List En)(ctx:List Tm)(t:Tm)(u:Tm):Prop:=Sd (env.length:Nat) (ctx.length:Nat) u∧zbx t (ctx.length:Nat) (env.length:Nat)=true
end
end Go.Proofs.YtokfbblhjpfjkaaGreat
