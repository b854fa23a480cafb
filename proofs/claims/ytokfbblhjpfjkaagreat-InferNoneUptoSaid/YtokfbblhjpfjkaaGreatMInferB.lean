/- Reducing keeps scopes; what a tank makes normal is right, is in scope; right row -/
import Derived.Test.YtokfbblhjpfjkaaGreatMInferV
import Derived.Test.YtokfbblhjpfjkaaGreatHO
set_option linter.unusedSimpArgs false
set_option linter.unusedVariables false
namespace Go.Proofs.YtokfbblhjpfjkaaGreat
open Go.Aw Go.RowKit
theorem zDU{lk:Tm→Option (Tm×Int)}{t:Tm}{x:Int}(h:(goR lk t x).2.2=0):checkT t=0∧zw9 lk t (goR lk t x).2.1 (goR lk t x).1∧((goR lk t x).2.1.length:Nat)≤normM x:=by
 have hc:checkT t=0:=by
  unfold goR at h
  split at h
  ·rename_i q;exact absurd h q
  ·rename_i q;exact Classical.not_not.1 q
 have hg:goR lk t x=zk lk (normM x) t []:=by unfold goR;rw[if_neg (by omega)]
 rw[hg]at h⊢
 obtain⟨p,g1,g2,g3⟩:=zxU (n:=normM x) (t:=t) (ps:=[]) (a:=(zk lk (normM x) t []).1) (qs:=(zk lk (normM x) t []).2.1) (by rw[←h])
 rw[List.nil_append]at g1
 rw[g1]
 exact⟨hc,g3,g2⟩
theorem zFl(lk:Tm→Option (Tm×Int)):NK (burnT lk) where
 right:=fun s t h=>by
  unfold burnT at h⊢
  split at h
  ·rename_i q;exact absurd h q
  ·rename_i q
   rw[if_neg q]
   obtain⟨h1,h2,_⟩:=zDU (Classical.not_not.1 q)
   exact(zyf h2 h1).1
 size:=fun s t=>by
  unfold burnT
  split
  ·exact(by decide:zT.size≤6000)
  ·rename_i q
   obtain⟨h1,h2,_⟩:=zDU (Classical.not_not.1 q)
   exact(zcH (zyf h2 h1).1).1
theorem zFm{env:List En}(hE:zCC env=0): ∀ e,e∈env→C0 e.typ∧zbx e.typ 0 (env.length:Nat)=true:=fun e he=>by
 obtain⟨j,hj⟩:=List.getElem?_of_mem he
 have hl:=(List.getElem?_eq_some_iff.1 hj).1
 have h:=(zez hE hj).1
 unfold zcj at h
 rw[Bool.and_eq_true]at h
 have h:=h.1
 unfold zcY at h
 simp only[Bool.and_eq_true,decide_eq_true_eq]at h
 have h2:=h.2.2.2
 rw[if_neg (by omega)]at h2
 exact⟨h.2.2.1,zv8 _ _ _ _ _ (Int.le_refl _) (by omega) h2⟩
theorem zEh{env:List En}{ctx:List Tm}(h:zDa env ctx=0):ctx.length≤40∧CtxS env ctx:=by
 unfold zDa at h
 split at h
 ·cases h
 ·rename_i hl
  refine⟨by omega,fun i x hx=>?_⟩
  split at h
  ·rename_i ha
   have hi:=(List.getElem?_eq_some_iff.1 hx).1
   have:=List.all_eq_true.1 ha i (List.mem_range.2 hi)
   rw[List.getD_eq_getElem?_getD,hx]at this
   unfold zcY at this
   simp only[Bool.and_eq_true,decide_eq_true_eq,Option.getD_some]at this
   have h2:=this.2.2.2
   rw[if_neg (by omega)]at h2
   exact⟨this.2.2.1,h2⟩
  ·cases h
theorem CtxS.right{env:List En}{ctx:List Tm}(h:CtxS env ctx): ∀ x,x∈ctx→C0 x:=fun x hx=>by
 obtain⟨i,hi⟩:=List.getElem?_of_mem hx
 exact(h i x hi).1
end Go.Proofs.YtokfbblhjpfjkaaGreat
