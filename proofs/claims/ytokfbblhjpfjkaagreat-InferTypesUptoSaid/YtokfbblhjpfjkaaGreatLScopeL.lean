/- Terms in scope of some variables, of some constants: moved, put into one another -/
import Derived.Test.YtokfbblhjpfjkaaGreatLInstC
import Derived.Test.YtokfbblhjpfjkaaGreatGJ
set_option linter.unusedSimpArgs false
set_option linter.unusedVariables false
namespace Go.Proofs.YtokfbblhjpfjkaaGreat
open Go.Aw Go.RowKit
mutual
theorem zv8: ∀ (t:Tm) (v v' c c':Int),v≤v'→c≤c'→zbx t v c=true→zbx t v' c'=true
 | .mk k n l,v,v',c,c',hv,hc,h=>by
   rw[zbx]at h⊢
   split at h
   ·rename_i q;rw[if_pos q];exact decide_eq_true (by have:=of_decide_eq_true h;omega)
   ·rename_i q
    rw[if_neg q]
    split at h
    ·rename_i q;rw[if_pos q];exact h
    ·rename_i q
     rw[if_neg q]
     split at h
     ·rename_i q;rw[if_pos q];exact decide_eq_true (by have:=of_decide_eq_true h;omega)
     ·rename_i q;rw[if_neg q];exact zxi k 0 l v v' c c' hv hc h
theorem zxi: ∀ (k i:Int) (l:List Tm) (v v' c c':Int),v≤v'→c≤c'→zaD k i l v c=true→zaD k i l v' c'=true
 |_,_,[],_,_,_,_,_,_,_=>by rw[zaD]
 |k,i,t::l,v,v',c,c',hv,hc,h=>by
  rw[zaD,Bool.and_eq_true]at h⊢
  exact⟨zv8 t _ _ c c' (by omega) hc h.1,zxi k (i+1) l v v' c c' hv hc h.2⟩
end
mutual
theorem zwX(F:Int→Int→Tm): ∀ (t:Tm) (v v' c b:Int),formedT t=true→(∀ n d:Int,0≤n→n≤65535→0≤d→d≤t.size→n <v+d→zbx (F n (b+d)) (v'+d) c=true)→zbx t v c=true→zbx (zeF F b t) v' c=true
 | .mk k n l,v,v',c,b,hf,hF,h=>by
   have hs:=(Tm.mk k n l).size_eq
   rw[zeF]
   split
   ·rename_i hk
    obtain rfl:=zqM hf hk
    subst hk
    have hn:=zvJ hf
    rw[zbx,if_pos rfl]at h
    have:=hF n 0 hn.1 hn.2 (by omega) (by omega) (by have:=of_decide_eq_true h;omega)
    simpa using this
   ·rename_i hk
    have hl:zep l=true:=by simp only[formedT,Bool.and_eq_true]at hf;exact hf.2
    rw[zbx]at h⊢
    rw[if_neg hk]at h⊢
    split
    ·rename_i h2;rwa[if_pos h2]at h
    ·rename_i h2
     rw[if_neg h2]at h
     split
     ·rename_i h3;rwa[if_pos h3]at h
     ·rename_i h3
      rw[if_neg h3]at h
      have e:(((Tm.mk k n l).size:Nat):Int)=((1+sizes l:Nat):Int):=by rw[hs];rfl
      exact zxw F k l 0 v v' c b hl (fun n d h0 h1 h2 h3 h4=>hF n d h0 h1 h2 (by rw[e];omega) h4) h
theorem zxw(F:Int→Int→Tm)(k:Int): ∀ (l:List Tm) (i v v' c b:Int),zep l=true→(∀ n d:Int,0≤n→n≤65535→0≤d→d≤1+sizes l→n <v+d→zbx (F n (b+d)) (v'+d) c=true)→zaD k i l v c=true→zaD k i (mapTs F k b i l) v' c=true
 |[],i,_,_,_,_,_,_,_=>by rw[mapTs,zaD]
 |t::l,i,v,v',c,b,hf,hF,h=>by
  rw[zep,Bool.and_eq_true]at hf
  rw[zaD,Bool.and_eq_true]at h
  have hb:=zw0 k i
  rw[mapTs,zaD,Bool.and_eq_true]
  refine⟨zwX F t _ _ c _ hf.1 (fun n d h0 h1 h2 h3 h4=>?_) h.1,zxw F k l (i+1) v v' c b hf.2 (fun n d h0 h1 h2 h3 h4=>hF n d h0 h1 h2 (by simp only[sizes];omega) h4) h.2⟩
  have:=hF n (zU k i+d) h0 h1 (by omega) (by simp only[sizes];omega) (by omega)
  rw[show b+zU k i+d=b+(zU k i+d) by omega,show v'+zU k i+d=v'+(zU k i+d) by omega]
  exact this
end
theorem zwy{n v c:Int}(h:n <v):zbx (.mk 1 n []) v c=true:=by rw[zbx,if_pos rfl];exact decide_eq_true h
theorem zxX{t:Tm}{v c by_:Int}(hf:formedT t=true)(hs:t.size≤6000)(hb:0≤by_∧by_≤1048576)(h:zbx t v c=true):zbx (zl8 t by_) (v+by_) c=true:=by
 unfold zl8
 refine zwX _ t v (v+by_) c 0 hf (fun n d h0 h1 h2 h3 h4=>?_) h
 unfold zth
 refine zwy ?_
 split
 ·rw[zy (by omega) (by omega)];omega
 ·omega
theorem zwV{t:Tm}{v c by_:Int}(h0:(zbs t by_ 0).2=0)(h:zbx t v c=true):zbx (zbs t by_ 0).1 (v+by_) c=true:=by
 unfold zbs at h0⊢
 split at h0
 ·rename_i q;exact absurd h0 q
 ·rename_i q
  rw[if_neg q]
  split at h0
  ·cases h0
  ·rename_i q2
   rw[if_neg q2]
   split at h0
   ·rename_i q3;exact absurd h0 q3
   ·rename_i q3
    rw[if_neg q3]
    have hb:0≤by_:=by
     cases hm:zl3 by_ with
     |false=>rw[hm]at q2;exact absurd rfl q2
     |true=>unfold zl3 at hm;simp at hm;omega
    refine zwX _ t v (v+by_) c 0 (zcH (Classical.not_not.1 q)).2.2 (fun n d h0 h1 h2 h3 h4=>?_) h
    unfold shF
    refine zwy ?_
    split <;>omega
theorem zyS{args:List Tm}{i:Nat}(h:i <args.length):((args.map gOf).getD i zG).t=args.getD i zT:=by
 rw[List.getD_eq_getElem?_getD,List.getElem?_map,List.getD_eq_getElem?_getD,List.getElem?_eq_getElem h];rfl
mutual
theorem zxG: ∀ (t:Tm) (j:Jb) (b d:Int),(zdw t j b d).args=j.args∧(zdw t j b d).under=j.under
 | .mk k n l,j,b,d=>by
   rw[zdw]
   split
   ·unfold lookV
    split <;>exact⟨rfl,rfl⟩
   ·exact zxs k l 0 (nodeJ j d) b d
theorem zxs: ∀ (k:Int) (l:List Tm) (i:Int) (j:Jb) (b d:Int),(zbY k i l j b d).args=j.args∧(zbY k i l j b d).under=j.under
 |_,[],_,_,_,_=>by rw[zbY];exact⟨rfl,rfl⟩
 |k,t::l,i,j,b,d=>by
  rw[zbY]
  obtain⟨h1,h2⟩:=zxs k l (i+1) (zdw t j (b+zU k i) (d+1)) b d
  obtain⟨h3,h4⟩:=zxG t j (b+zU k i) (d+1)
  exact⟨h1.trans h3,h2.trans h4⟩
end
theorem zwI{t:Tm}{args:List Tm}{under v c:Int}(h0:(instT t args under).2=0)(hv:0≤v)(ht:zbx t (v+args.length+under) c=true)(ha: ∀ a,a∈args→zbx a v c=true):zbx (instT t args under).1 (v+under) c=true:=by
 unfold instT at h0⊢
 by_cases he:zdx t args under=0
 ·rw[if_neg (by omega)]at h0⊢
  obtain⟨o1,o2,o3,o4⟩:=zxc he
  obtain⟨c1,c2,c3⟩:=zcH o1
  split at h0
  ·cases h0
  ·rename_i q1
   rw[if_neg q1]
   split at h0
   ·cases h0
   ·rename_i q2
    rw[if_neg q2]
    split at h0
    ·cases h0
    ·rename_i q3
     rw[if_neg q3]
     obtain⟨j1,j2⟩:=zxG t ⟨args.map gOf,under,false,0,0⟩ 0 0
     have j1:(zeG t args under).args=args.map gOf:=j1
     have j2:(zeG t args under).under=under:=j2
     refine zwX _ t (v+args.length+under) (v+under) c 0 c3 (fun n d h0 h1 h2 h3 h4=>?_) ht
     unfold zcl
     rw[j1,j2,Int.zero_add]
     unfold zd0
     rw[List.length_map]
     by_cases a1:n <under+d
     ·rw[if_pos a1,if_neg (by omega),if_neg (by omega)]
      exact zwy (by omega)
     ·rw[if_neg a1]
      by_cases a2:(args.length:Int)≤n-(under+d)
      ·rw[if_pos a2,if_neg (by omega),if_pos (by omega)]
       exact zwy (by rw[zy (by omega) (by omega)];omega)
      ·rw[if_neg a2,if_pos (by omega),zyS (by omega)]
       have hm:args.getD ((args.length:Int)-1-(n-(under+d))).toNat zT∈args:=by
        rw[List.getD_eq_getElem?_getD,List.getElem?_eq_getElem (by omega)];exact List.getElem_mem _
       have hc:=zcH (o2 _ hm)
       have:=zxX (by_:=under+d) hc.2.2 hc.1 (by omega) (ha _ hm)
       rwa[←Int.add_assoc]at this
 ·rw[if_pos he]at h0
  exact absurd h0 he
theorem zxO{f a:Tm}{v c:Int}(hf:zbx f v c=true)(ha:zbx a v c=true):zbx (.mk 6 0 [f,a]) v c=true:=by
 rw[zbx,if_neg (by decide),if_neg (by decide),if_neg (by decide),zaD,zaD,zaD]
 simp[zU,hf,ha]
theorem zwx{v c:Int}: ∀ (l:List Tm) (f:Tm),zbx f v c=true→(∀ a,a∈l→zbx a v c=true)→zbx (zaR f l) v c=true
 |[],f,hf,_=>hf
 |a::l,f,hf,h=>zwx l (.mk 6 0 [f,a]) (zxO hf (h a List.mem_cons_self)) fun x hx=>h x (List.mem_cons_of_mem _ hx)
theorem zyi{d b:Tm}{v c:Int}(hd:zbx d v c=true)(hb:zbx b (v+1) c=true):zbx (.mk 5 0 [d,b]) v c=true:=by
 rw[zbx,if_neg (by decide),if_neg (by decide),if_neg (by decide),zaD,zaD,zaD]
 simp[zU,hd,hb]
theorem zxv{c:Int}{b:Tm}: ∀ (l:List Tm) (v:Int),(∀ (j:Nat) d,l[j]? =some d→zbx d (v+j) c=true)→zbx b (v+l.length) c=true→zbx (nestT 5 l b) v c=true
 |[],v,_,hb=>by simpa[nestT]using hb
 |d::l,v,h,hb=>by
  show zbx (.mk 5 0 [d,nestT 5 l b]) v c=true
  refine zyi (by simpa using h 0 d rfl) (zxv l (v+1) (fun j x hx=>?_) ?_)
  ·have:=h (j+1) x (by simpa using hx)
   rw[show v+((j+1:Nat):Int)=v+1+(j:Int) by omega]at this
   exact this
  ·rw[List.length_cons]at hb
   rw[show v+1+(l.length:Int)=v+((l.length+1:Nat):Int) by omega]
   exact hb
mutual
theorem zxt: ∀ (t:Tm) (v c c' a:Int),mostT t a <c'→zbx t v c=true→zbx t v c'=true
 | .mk k n l,v,c,c',a,hm,h=>by
   rw[mostT]at hm
   have h1:=zfX l (if k=3 then gI a n else a)
   rw[zbx]at h⊢
   split
   ·rename_i q;rwa[if_pos q]at h
   ·rename_i q
    rw[if_neg q]at h
    split
    ·rename_i q2;rwa[if_pos q2]at h
    ·rename_i q2
     rw[if_neg q2]at h
     split
     ·rename_i q3
      rw[if_pos q3]at hm h1
      have:=(zqq a n).2
      exact decide_eq_true (by omega)
     ·rename_i q3
      rw[if_neg q3]at h
      exact zxf k l 0 v c c' _ hm h
theorem zxf(k:Int): ∀ (l:List Tm) (i v c c' a:Int),zbw l a <c'→zaD k i l v c=true→zaD k i l v c'=true
 |[],_,_,_,_,_,_,_=>by rw[zaD]
 |t::l,i,v,c,c',a,hm,h=>by
  rw[zbw]at hm
  rw[zaD,Bool.and_eq_true]at h⊢
  have h1:=zfX l (mostT t a)
  exact⟨zxt t _ c c' a (by omega) h.1,zxf k l (i+1) v c c' _ hm h.2⟩
end
theorem zxH: ∀ {l:List Tm} {t:Tm} (a:Int),t∈l→ ∃ b,mostT t b≤zbw l a
 |x::l,t,a,h=>by
  rw[zbw]
  rcases List.mem_cons.1 h with rfl|h
  ·exact⟨a,zfX l _⟩
  ·exact zxH _ h
end Go.Proofs.YtokfbblhjpfjkaaGreat
