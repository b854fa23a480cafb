/- Terms in scope of some variables, of some constants: moved, put into one another -/
import Derived.Test.YtokfbblhjpfjkaaGreatMInstC
import Derived.Test.YtokfbblhjpfjkaaGreatHJ
set_option linter.unusedSimpArgs false
set_option linter.unusedVariables false
namespace Go.Proofs.YtokfbblhjpfjkaaGreat
open Go.Aw Go.RowKit
mutual
theorem zv8: ∀ (t:Tm) (v v' c c':Int),v≤v'→c≤c'→zbx t v c=true→zbx t v' c'=true
 | .mk k n l,v,v',c,c',hv,hc,h=>by
   rw[zbx]at h⊢
   split at h
   ·rename_i q;rw[if_pos q];exact decide_eq_true (by have:=of_decide_eq_true h;omega)
   ·rename_i q
    rw[if_neg q]
    split at h
    ·rename_i q;rw[if_pos q];exact h
    ·rename_i q
     rw[if_neg q]
     split at h
     ·rename_i q;rw[if_pos q];exact decide_eq_true (by have:=of_decide_eq_true h;omega)
     ·rename_i q;rw[if_neg q];exact zxi k 0 l v v' c c' hv hc h
theorem zxi: ∀ (k i:Int) (l:List Tm) (v v' c c':Int),v≤v'→c≤c'→zaD k i l v c=true→zaD k i l v' c'=true
 |_,_,[],_,_,_,_,_,_,_=>by rw[zaD]
 |k,i,t::l,v,v',c,c',hv,hc,h=>by
  rw[zaD,Bool.and_eq_true]at h⊢
  exact⟨zv8 t _ _ c c' (by omega) hc h.1,zxi k (i+1) l v v' c c' hv hc h.2⟩
end
mutual
theorem zwX(F:Int→Int→Tm): ∀ (t:Tm) (v v' c b:Int),formedT t=true→(∀ n d:Int,0≤n→n≤65535→0≤d→d≤t.size→n <v+d→zbx (F n (b+d)) (v'+d) c=true)→zbx t v c=true→zbx (zeF F b t) v' c=true
 | .mk k n l,v,v',c,b,hf,hF,h=>by
   have hs:=(Tm.mk k n l).size_eq
   rw[zeF]
   split
   ·rename_i hk
    obtain rfl:=zqM hf hk
    subst hk
    have hn:=zvJ hf
    rw[zbx,if_pos rfl]at h
    have:=hF n 0 hn.1 hn.2 (by omega) (by omega) (by have:=of_decide_eq_true h;omega)
    simpa using this
   ·rename_i hk
    have hl:zep l=true:=by simp only[formedT,Bool.and_eq_true]at hf;exact hf.2
    rw[zbx]at h⊢
    rw[if_neg hk]at h⊢
    split
    ·rename_i h2;rwa[if_pos h2]at h
    ·rename_i h2
     rw[if_neg h2]at h
     split
     ·rename_i h3;rwa[if_pos h3]at h
     ·rename_i h3
      rw[if_neg h3]at h
      have e:(((Tm.mk k n l).size:Nat):Int)=((1+sizes l:Nat):Int):=by rw[hs];rfl
      exact zxw F k l 0 v v' c b hl (fun n d h0 h1 h2 h3 h4=>hF n d h0 h1 h2 (by rw[e];omega) h4) h
theorem zxw(F:Int→Int→Tm)(k:Int): ∀ (l:List Tm) (i v v' c b:Int),zep l=true→(∀ n d:Int,0≤n→n≤65535→0≤d→d≤1+sizes l→n <v+d→zbx (F n (b+d)) (v'+d) c=true)→zaD k i l v c=true→zaD k i (mapTs F k b i l) v' c=true
 |[],i,_,_,_,_,_,_,_=>by rw[mapTs,zaD]
 |t::l,i,v,v',c,b,hf,hF,h=>by
  rw[zep,Bool.and_eq_true]at hf
  rw[zaD,Bool.and_eq_true]at h
  have hb:=zw0 k i
  rw[mapTs,zaD,Bool.and_eq_true]
  refine⟨zwX F t _ _ c _ hf.1 (fun n d h0 h1 h2 h3 h4=>?_) h.1,zxw F k l (i+1) v v' c b hf.2 (fun n d h0 h1 h2 h3 h4=>hF n d h0 h1 h2 (by simp only[sizes];omega) h4) h.2⟩
  have:=hF n (zU k i+d) h0 h1 (by omega) (by simp only[sizes];omega) (by omega)
  rw[show b+zU k i+d=b+(zU k i+d) by omega,show v'+zU k i+d=v'+(zU k i+d) by omega]
  exact this
end
theorem zyS{args:List Tm}{i:Nat}(h:i <args.length):((args.map gOf).getD i zG).t=args.getD i zT:=by
 rw[List.getD_eq_getElem?_getD,List.getElem?_map,List.getD_eq_getElem?_getD,List.getElem?_eq_getElem h];rfl
mutual
theorem zxG: ∀ (t:Tm) (j:Jb) (b d:Int),(zdw t j b d).args=j.args∧(zdw t j b d).under=j.under
 | .mk k n l,j,b,d=>by
   rw[zdw]
   split
   ·unfold lookV
    split <;>exact⟨rfl,rfl⟩
   ·exact zxs k l 0 (nodeJ j d) b d
theorem zxs: ∀ (k:Int) (l:List Tm) (i:Int) (j:Jb) (b d:Int),(zbY k i l j b d).args=j.args∧(zbY k i l j b d).under=j.under
 |_,[],_,_,_,_=>by rw[zbY];exact⟨rfl,rfl⟩
 |k,t::l,i,j,b,d=>by
  rw[zbY]
  obtain⟨h1,h2⟩:=zxs k l (i+1) (zdw t j (b+zU k i) (d+1)) b d
  obtain⟨h3,h4⟩:=zxG t j (b+zU k i) (d+1)
  exact⟨h1.trans h3,h2.trans h4⟩
end
mutual
theorem zxt: ∀ (t:Tm) (v c c' a:Int),mostT t a <c'→zbx t v c=true→zbx t v c'=true
 | .mk k n l,v,c,c',a,hm,h=>by
   rw[mostT]at hm
   have h1:=zfX l (if k=3 then gI a n else a)
   rw[zbx]at h⊢
   split
   ·rename_i q;rwa[if_pos q]at h
   ·rename_i q
    rw[if_neg q]at h
    split
    ·rename_i q2;rwa[if_pos q2]at h
    ·rename_i q2
     rw[if_neg q2]at h
     split
     ·rename_i q3
      rw[if_pos q3]at hm h1
      have:=(zqq a n).2
      exact decide_eq_true (by omega)
     ·rename_i q3
      rw[if_neg q3]at h
      exact zxf k l 0 v c c' _ hm h
theorem zxf(k:Int): ∀ (l:List Tm) (i v c c' a:Int),zbw l a <c'→zaD k i l v c=true→zaD k i l v c'=true
 |[],_,_,_,_,_,_,_=>by rw[zaD]
 |t::l,i,v,c,c',a,hm,h=>by
  rw[zbw]at hm
  rw[zaD,Bool.and_eq_true]at h⊢
  have h1:=zfX l (mostT t a)
  exact⟨zxt t _ c c' a (by omega) h.1,zxf k l (i+1) v c c' _ hm h.2⟩
end
end Go.Proofs.YtokfbblhjpfjkaaGreat
