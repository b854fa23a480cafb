/- What went well, part by part; the plain laws of InferIds, InferVars. -/
import Derived.Test.YtokfbblhjpfjkaaGreatMInferP
set_option linter.unusedSimpArgs false
set_option linter.unusedVariables false
namespace Go.Proofs.YtokfbblhjpfjkaaGreat
open Go.Aw Go.RowKit
section
variable {σ α β:Type}
theorem zCp{m:WM σ α}{f:α→WM σ β}{s s':σ}{b:β}(h:zyN m f (0,s)=(b,(0,s')))(hf: ∀ a,Er (f a)): ∃ a s1,m (0,s)=(a,(0,s1))∧f a (0,s1)=(b,(0,s')):=by
 by_cases hz:(m (0,s)).2.1=0
 ·have e:m (0,s)=((m (0,s)).1,(0,(m (0,s)).2.2)):=Prod.ext rfl (Prod.ext hz rfl)
  rw[zCV e]at h
  exact⟨_,_,e,h⟩
 ·have h2:=zDM (f:=f) hz hf
  rw[h]at h2
  exact absurd (congrArg Prod.fst h2.symm) hz
theorem zDI{b:Bool}{er:Int}{s s':σ}{a:Bool}(her:er≠0)(h:wantW b er (0,s)=(a,(0,s'))):b=true∧a=true∧s'=s:=by
 cases b with
 |false=>rw[zEi]at h;exact absurd (congrArg (fun r=>r.2.1) h) her
 |true=>
  rw[zDD]at h
  exact⟨rfl,(congrArg Prod.fst h).symm,(congrArg (fun r=>r.2.2) h).symm⟩
theorem zDL{a b:α}{s s':σ}(h:zzZ (σ:=σ) a (0,s)=(b,(0,s'))):b=a∧s'=s:=⟨(congrArg Prod.fst h).symm,(congrArg (fun r=>r.2.2) h).symm⟩
variable {N:σ→Tm→Tm×Int×σ} {env:List En}
theorem zEC{ctx c:List Tm}{a:Tm}{s s':σ}(h:zBS ctx a (0,s)=(c,(0,s'))):ctx.length <40∧c=ctx++[a]∧s'=s:=by
 unfold zBS at h
 obtain⟨b,s1,h1,h2⟩:=zCp h fun _=>.pure _
 obtain⟨h3,_,rfl⟩:=zDI (by decide) h1
 obtain⟨rfl,rfl⟩:=zDL h2
 exact⟨by have:=of_decide_eq_true h3;omega,rfl,rfl⟩
end
theorem zFw{k n:Int}{l:List Tm}(h:formedT (.mk k n l)=true)(hk:k=2∨k=3):l=[]:=by
 simp only[formedT,Bool.and_eq_true,decide_eq_true_eq]at h
 have h3:=h.1.1
 rcases hk with rfl|rfl
 all_goals
  simp[kidsR]at h3
  exact h3
mutual
theorem zHh(by_ c:Int)(hb:0≤by_): ∀ (t:Tm) (v b e:Int),0≤b→formedT t=true→zbx t (v+b) c=true→v+b+by_+t.size≤65536→shE by_ 0 b t e=e
 | .mk k n l,v,b,e,h0,hf,hs,hz=>by
   have hsz:(Tm.mk k n l).size=1+sizes l:=(Tm.mk k n l).size_eq
   rw[shE]
   rw[zbx]at hs
   split
   ·rename_i hk
    rw[if_pos hk]at hs
    have:=of_decide_eq_true hs
    unfold shV
    rw[if_neg (by omega)]
   ·rename_i hk
    rw[if_neg hk]at hs
    have hl:zep l=true:=by simp only[formedT,Bool.and_eq_true]at hf;exact hf.2
    by_cases hk2:k=2∨k=3
    ·obtain rfl:=zFw hf hk2
     rw[zjr]
    ·rw[if_neg (by omega),if_neg (by omega)]at hs
     exact zE6 by_ c hb k l 0 v b e h0 hl hs (by rw[hsz]at hz;omega)
theorem zE6(by_ c:Int)(hb:0≤by_)(k:Int): ∀ (l:List Tm) (i v b e:Int),0≤b→zep l=true→zaD k i l (v+b) c=true→v+b+by_+(1+sizes l:Nat)≤65536→zjr by_ 0 k b i l e=e
 |[],_,_,_,_,_,_,_,_=>by rw[zjr]
 |t::l,i,v,b,e,h0,hf,hs,hz=>by
  rw[zep,Bool.and_eq_true]at hf
  rw[zaD,Bool.and_eq_true]at hs
  have hbn:=zw0 k i
  simp only[sizes]at hz
  rw[zjr,zHh by_ c hb t v (b+zU k i) e (by omega) hf.1 (by rw[←Int.add_assoc];exact hs.1) (by omega)]
  exact zE6 by_ c hb k l (i+1) v b e h0 hf.2 hs.2 (by omega)
end
end Go.Proofs.YtokfbblhjpfjkaaGreat
