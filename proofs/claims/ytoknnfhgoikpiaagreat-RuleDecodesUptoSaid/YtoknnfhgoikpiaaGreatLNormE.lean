/- Definitions' constants, few fuel, spines that stay: what they are made, in plain -/
import Derived.Test.YtoknnfhgoikpiaaGreatLNormD
import Derived.Test.YtoknnfhgoikpiaaGreatGJ
namespace Go.Proofs.YtoknnfhgoikpiaaGreat
set_option linter.unusedSimpArgs false
set_option linter.unusedVariables false
open Go.Aw Go.RowKit
theorem zz7{n:Nat}(h:n≤65535):z8 (.mk 3 (n:Int) [])=0:=zvv (by simp[Tm.size,sizes]) (by simp[Tm.depth,zbW]) (by simp[formedT,zep,inR,zdV];omega)
theorem zz5{lk:Tm→Option (Tm×Int)}{m:Nat}{t:Tm}{ps:List (List Int)}{p:List Int}(hp:zc0 lk t=some p)(hm:(makeR lk t p).2=0):goN lk (m+1) t ps=goN lk m (makeR lk t p).1 (ps++[p]):=by
 rw[goN,hp];simp only;rw[if_pos hm]
theorem zzu: ∀ (n:Nat) (t:Tm) (acc:List Tm),(spN n t acc).1=(spN n t []).1
 |0,t,acc=>rfl
 |n+1,t,acc=>by
  by_cases h2:zbC t 6=true
  ·obtain⟨f,a,hk⟩:=zb0 h2
   rw[zcn h2 hk,zcn h2 hk,zzu n f (acc++[a]),zzu n f ([]++[a])]
  ·have h2:zbC t 6=false:=by simpa using h2
   rw[zc5 h2,zc5 h2]
theorem Sp.head{f:Tm}(hf:f.kind≠6): ∀ {m:Nat} {t:Tm},Sp f m t→ ∀ n acc,t.size≤n→(spN n t acc).1=f:=by
 intro m
 induction m with
 |zero=>
  intro t h n acc _
  cases h
  rw[zc5 (by unfold zbC;rw[decide_eq_false hf];rfl)]
 |succ m ih=>
  intro t h n acc hn
  cases h with
  | @app m a b h=>
    have hs:(Tm.mk 6 0 [a,b]).size=1+(a.size+(b.size+0)):=by simp only[Tm.size,sizes];try omega
    cases n with
    |zero=>omega
    |succ n=>
     rw[zcn (t:=.mk 6 0 [a,b]) (f:=a) (a:=b) rfl rfl]
     exact ih h n _ (by have:=b.size_pos;omega)
theorem Sp.kind{f:Tm}: ∀ {m:Nat} {t:Tm},Sp f m t→t.kind=f.kind∨t.kind=6
 |_,_,.base=>.inl rfl
 |_,_,.app _=>.inr rfl
def zAh(env:List En)(f:Tm):Prop:=f.kids=[]∧(f.kind=1∨f.kind=3∧ ∀ e,ofE env f=some e→e.kind=1)
theorem zAb(env:List En)(n:Int)(l:List Tm):lookR env (.mk 4 n l)=none:=rfl
end Go.Proofs.YtoknnfhgoikpiaaGreat
