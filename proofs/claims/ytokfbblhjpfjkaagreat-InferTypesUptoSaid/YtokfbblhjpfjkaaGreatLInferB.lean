/- Reducing keeps scopes; what a tank makes normal is right, is in scope; right row -/
import Derived.Test.YtokfbblhjpfjkaaGreatLInferV
import Derived.Test.YtokfbblhjpfjkaaGreatGO
set_option linter.unusedSimpArgs false
set_option linter.unusedVariables false
namespace Go.Proofs.YtokfbblhjpfjkaaGreat
open Go.Aw Go.RowKit
theorem zD6{k c:Int}: ∀ {l:List Tm} {i v:Int} {j:Nat} {x:Tm},zaD k i l v c=true→zbx x (v+zU k (i+j)) c=true→zaD k i (l.set j x) v c=true
 |[],_,_,_,_,h,_=>by simpa using h
 |t::l,i,v,0,x,h,hx=>by
  rw[zaD,Bool.and_eq_true]at h
  show zaD k i (x::l) v c=true
  rw[zaD,Bool.and_eq_true]
  exact⟨by simpa using hx,h.2⟩
 |t::l,i,v,j+1,x,h,hx=>by
  rw[zaD,Bool.and_eq_true]at h
  show zaD k i (t::l.set j x) v c=true
  rw[zaD,Bool.and_eq_true]
  exact⟨h.1,zD6 h.2 (by rwa[show i+1+(j:Int)=i+((j+1:Nat):Int) by omega])⟩
theorem zEp{c:Int}{u r:Tm}(hr: ∀ w,0≤w→zbx u w c=true→zbx r w c=true): ∀ (p:List Int) (t:Tm) (v:Int),0≤v→zbx t v c=true→zaZ t p=some u→zbx (setT t p r) v c=true
 |[],t,v,hv,h,hf=>by obtain rfl:=Option.some.inj hf;exact hr v hv h
 |k::p,t,v,hv,h,hf=>by
  simp only[zaZ]at hf
  split at hf
  ·rename_i hk
   simp only[setT]
   by_cases hl:t.kind=1∨t.kind=2∨t.kind=3
   ·rw[zkm]at h
    rw[zbx]
    rcases hl with q|q|q
    ·rw[if_pos q]at h⊢;exact h
    ·rw[if_neg (by omega),if_pos q]at h⊢;exact h
    ·rw[if_neg (by omega),if_neg (by omega),if_pos q]at h⊢;exact h
   ·have hb:=zw0 t.kind k
    have hkid:=zb9 h (by omega) k.toNat
    rw[show((k.toNat:Nat):Int)=k by omega]at hkid
    have ih:=zEp hr p _ _ (by omega) hkid hf
    rw[zkm]at h
    rw[zbx]
    rw[if_neg (by omega),if_neg (by omega),if_neg (by omega)]at h⊢
    exact zD6 h (by rwa[Int.zero_add,show((k.toNat:Nat):Int)=k by omega])
  ·cases hf
theorem zFV{env:List En}{t:Tm}{p:List Int}{v:Int}(hE:envI env=0)(hv:0≤v)(hs:zbx t v (env.length:Nat)=true)(h:(makeR (lookR env) t p).2=0):zbx (makeR (lookR env) t p).1 v (env.length:Nat)=true:=by
 obtain⟨u,r,h1,h2,h3,h4,h5⟩:=zCf h
 rw[h4]
 exact zEp (fun w hw q=>zyb hE hw h2 h3 q) p t v hv hs h1
theorem zDB{env:List En}{v:Int}(hE:envI env=0)(hv:0≤v): ∀ {p:List (List Int)} {t a:Tm},zw9 (lookR env) t p a→zbx t v (env.length:Nat)=true→zbx a v (env.length:Nat)=true
 |[],t,a,h,hs=>h.1▸hs
 |_::_,_,_,h,hs=>zDB hE hv h.2.2 (zFV hE hv hs h.2.1)
theorem zDU{lk:Tm→Option (Tm×Int)}{t:Tm}{x:Int}(h:(goR lk t x).2.2=0):checkT t=0∧zw9 lk t (goR lk t x).2.1 (goR lk t x).1∧((goR lk t x).2.1.length:Nat)≤normM x:=by
 have hc:checkT t=0:=by
  unfold goR at h
  split at h
  ·rename_i q;exact absurd h q
  ·rename_i q;exact Classical.not_not.1 q
 have hg:goR lk t x=goN lk (normM x) t []:=by unfold goR;rw[if_neg (by omega)]
 rw[hg]at h⊢
 obtain⟨p,g1,g2,g3⟩:=zxU (n:=normM x) (t:=t) (ps:=[]) (a:=(goN lk (normM x) t []).1) (qs:=(goN lk (normM x) t []).2.1) (by rw[←h])
 rw[List.nil_append]at g1
 rw[g1]
 exact⟨hc,g3,g2⟩
theorem zFl(lk:Tm→Option (Tm×Int)):NK (burnT lk) where
 right:=fun s t h=>by
  unfold burnT at h⊢
  split at h
  ·rename_i q;exact absurd h q
  ·rename_i q
   rw[if_neg q]
   obtain⟨h1,h2,_⟩:=zDU (Classical.not_not.1 q)
   exact(zyf h2 h1).1
 size:=fun s t=>by
  unfold burnT
  split
  ·exact(by decide:zT.size≤6000)
  ·rename_i q
   obtain⟨h1,h2,_⟩:=zDU (Classical.not_not.1 q)
   exact(zcH (zyf h2 h1).1).1
theorem zHs{env:List En}(hE:envI env=0):NS (burnT (lookR env)) (env.length:Nat):=fun s t v hv h hs=>by
 unfold burnT at h⊢
 split at h
 ·rename_i q;exact absurd h q
 ·rename_i q
  rw[if_neg q]
  obtain⟨h1,h2,_⟩:=zDU (Classical.not_not.1 q)
  exact zDB hE hv h2 hs
theorem zFm{env:List En}(hE:envI env=0): ∀ e,e∈env→C0 e.typ∧zbx e.typ 0 (env.length:Nat)=true:=fun e he=>by
 obtain⟨j,hj⟩:=List.getElem?_of_mem he
 have hl:=(List.getElem?_eq_some_iff.1 hj).1
 have h:=(zez hE hj).1
 unfold zcj at h
 rw[Bool.and_eq_true]at h
 have h:=h.1
 unfold zcY at h
 simp only[Bool.and_eq_true,decide_eq_true_eq]at h
 have h2:=h.2.2.2
 rw[if_neg (by omega)]at h2
 exact⟨h.2.2.1,zv8 _ _ _ _ _ (Int.le_refl _) (by omega) h2⟩
theorem zEh{env:List En}{ctx:List Tm}(h:zDa env ctx=0):ctx.length≤40∧CtxS env ctx:=by
 unfold zDa at h
 split at h
 ·cases h
 ·rename_i hl
  refine⟨by omega,fun i x hx=>?_⟩
  split at h
  ·rename_i ha
   have hi:=(List.getElem?_eq_some_iff.1 hx).1
   have:=List.all_eq_true.1 ha i (List.mem_range.2 hi)
   rw[List.getD_eq_getElem?_getD,hx]at this
   unfold zcY at this
   simp only[Bool.and_eq_true,decide_eq_true_eq,Option.getD_some]at this
   have h2:=this.2.2.2
   rw[if_neg (by omega)]at h2
   exact⟨this.2.2.1,h2⟩
  ·cases h
theorem zIl{env:List En}{ctx:List Tm}(hl:ctx.length≤40)(h:CtxS env ctx):zDa env ctx=0:=by
 unfold zDa
 rw[if_neg (by omega),if_pos]
 refine List.all_eq_true.2 fun i hi=>?_
 have hi:=List.mem_range.1 hi
 have hg:=List.getElem?_eq_getElem hi
 obtain⟨h1,h2⟩:=h i _ hg
 rw[List.getD_eq_getElem?_getD,hg]
 unfold zcY
 simp only[Bool.and_eq_true,decide_eq_true_eq,Option.getD_some]
 refine⟨by omega,by omega,h1,?_⟩
 rw[if_neg (by omega)];exact h2
theorem CtxS.right{env:List En}{ctx:List Tm}(h:CtxS env ctx): ∀ x,x∈ctx→C0 x:=fun x hx=>by
 obtain⟨i,hi⟩:=List.getElem?_of_mem hx
 exact(h i x hi).1
end Go.Proofs.YtokfbblhjpfjkaaGreat
