/- What is in scope is reduced to what is in scope, over a right row: in plain word -/
import Derived.Test.YtokfbblhjpfjkaaGreatMScopeL
import Derived.Test.YtokfbblhjpfjkaaGreatMFirstR
import Derived.Test.YtokfbblhjpfjkaaGreatHK
set_option linter.unusedSimpArgs false
set_option linter.unusedVariables false
namespace Go.Proofs.YtokfbblhjpfjkaaGreat
open Go.Aw Go.RowKit
theorem zyR{t f a:Tm}{v c:Int}(h:zbC t 6=true)(hk:t.kids=[f,a]):zbx t v c=true↔zbx f v c=true∧zbx a v c=true:=by
 have h6:t.kind=6:=by unfold zbC at h;rw[Bool.and_eq_true]at h;exact of_decide_eq_true h.1
 rw[zkm,h6,hk,if_neg (by decide),if_neg (by decide),if_neg (by decide),zaD,zaD,zaD]
 simp[zU]
theorem zxL{v c:Int}: ∀ (n:Nat) (t:Tm) (acc:List Tm),(zbx (spN n t acc).1 v c=true∧ ∀ a,a∈(spN n t acc).2→zbx a v c=true)↔(zbx t v c=true∧ ∀ a,a∈acc→zbx a v c=true)
 |0,t,acc=>Iff.rfl
 |n+1,t,acc=>by
  by_cases h2:zbC t 6=true
  ·obtain⟨f,a,hk⟩:=zb0 h2
   rw[zcn h2 hk,zxL n f (acc++[a]),zyR h2 hk]
   constructor
   ·rintro ⟨h1,h3⟩
    exact⟨⟨h1,h3 a (by simp)⟩,fun x hx=>h3 x (by simp[hx])⟩
   ·rintro ⟨⟨h1,h4⟩,h3⟩
    refine⟨h1,fun x hx=>?_⟩
    rcases List.mem_append.1 hx with q|q
    ·exact h3 x q
    ·obtain rfl:=List.mem_singleton.1 q;exact h4
  ·have h2:zbC t 6=false:=by simpa using h2
   rw[zc5 h2]
section
variable {b:Bl} {base:Int} {c:Int} {v:Int} (hv:0≤v) (hc0:0≤c) (hcn:base+(countN b:Nat)≤c)
include hv hc0 hcn
end
end Go.Proofs.YtokfbblhjpfjkaaGreat
