/- Chains of steps in a term whose root is never reduced: they are chains of its pa -/
import Derived.Test.YtoknnfhgoikpiaaGreatGN
import Derived.Test.YtoknnfhgoikpiaaGreatLFirstL
import Derived.Test.YtoknnfhgoikpiaaGreatLPartsL
import Derived.Test.YtoknnfhgoikpiaaGreatGI
namespace Go.Proofs.YtoknnfhgoikpiaaGreat
set_option linter.unusedSimpArgs false
set_option linter.unusedVariables false
open Go.Aw Go.RowKit
theorem zxQ(f:Tm)(l:List Tm)(a:Tm):zaR f (l++[a])=.mk 6 0 [zaR f l,a]:=by simp[zaR]
inductive Sp (f:Tm):Nat→Tm→Prop
 |base:Sp f 0 f
 |app {m:Nat} {a b:Tm} (h:Sp f m a):Sp f (m+1) (.mk 6 0 [a,b])
theorem Sp.of(f:Tm): ∀ l:List Tm,Sp f l.length (zaR f l):=by
 intro l
 generalize hn:l.length=n
 induction n generalizing l with
 |zero=>obtain rfl:=List.length_eq_zero_iff.1 hn;exact .base
 |succ n ih=>
  have hne:l≠[]:=by intro q;subst q;cases hn
  obtain⟨l',a,rfl⟩: ∃ l' a,l=l'++[a]:=⟨l.dropLast,l.getLast hne,(List.dropLast_concat_getLast hne).symm⟩
  rw[zxQ]
  exact .app (ih l' (by simpa using hn))
theorem zAc{lk:Tm→Option (Tm×Int)}: ∀ (n:Nat) (t:Tm) (ps:List (List Int)),goN lk n t ps=if(goN lk n t []).2.2=0 then((goN lk n t []).1,ps++(goN lk n t []).2.1,0)else(zT,[],(goN lk n t []).2.2):=by
 intro n
 induction n with
 |zero=>
  intro t ps
  cases h:zc0 lk t <;>simp[goN,h]
 |succ n ih=>
  intro t ps
  cases h:zc0 lk t with
  |none=>simp[goN,h]
  |some x=>
   by_cases hm:(makeR lk t x).2=0
   ·simp only[goN,h,hm,if_true]
    rw[ih _ (ps++[x]),ih _ ([]++[x])]
    by_cases hz:(goN lk n (makeR lk t x).1 []).2.2=0
    ·simp[hz]
    ·simp[hz]
   ·simp[goN,h,hm]
end Go.Proofs.YtoknnfhgoikpiaaGreat
