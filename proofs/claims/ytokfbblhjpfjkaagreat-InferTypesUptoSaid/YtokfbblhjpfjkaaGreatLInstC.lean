/- What subst.Inst tells is right by term.Check: small, not deep, well formed. -/
import Derived.Test.YtokfbblhjpfjkaaGreatGD
set_option linter.unusedSimpArgs false
set_option linter.unusedVariables false
namespace Go.Proofs.YtokfbblhjpfjkaaGreat
open Go.Aw Go.RowKit
theorem zwu(a b:Int):a≤mxI a b∧b≤mxI a b:=by unfold mxI;split <;>omega
theorem zvx(k b:Int): ∀ (l:List Tm) (i acc:Int),acc≤zdO k i l b acc
 |[],i,acc=>by rw[zdO];omega
 |t::l,i,acc=>by
  rw[zdO]
  have h1:=(zwu acc (ziv t (b+zU k i))).1
  have h2:=zvx k b l (i+1) (mxI acc (ziv t (b+zU k i)))
  omega
theorem zqM{k n:Int}{l:List Tm}(h:formedT (.mk k n l)=true)(hk:k=1):l=[]:=by
 subst hk
 simp only[formedT,Bool.and_eq_true,decide_eq_true_eq,kidsR]at h
 have:=h.1.1
 simp at this
 exact this
theorem zvJ{n:Int}(h:formedT (.mk 1 n [])=true):0≤n∧n≤65535:=by
 simp[formedT,inR,kidsR]at h
 omega
theorem zvT{n:Int}(h:0≤n∧n≤65535):formedT (.mk 1 n [])=true:=by
 simp[formedT,zep,inR,kidsR];omega
theorem zv1(F:Int→Int→Tm)(k b:Int): ∀ (l:List Tm) (i:Int),(mapTs F k b i l).length=l.length
 |[],i=>by rw[mapTs]
 |t::l,i=>by rw[mapTs,List.length_cons,List.length_cons,zv1 F k b l (i+1)]
theorem zwz{k n:Int}{l l':List Tm}(h:formedT (.mk k n l)=true)(hl:l'.length=l.length)(h':zep l'=true):formedT (.mk k n l')=true:=by
 simp only[formedT,Bool.and_eq_true]at h⊢
 rw[hl]
 exact⟨h.1,h'⟩
mutual
theorem zwr(c M:Int)(hc:0≤c∧c≤1048576)(hM:M <0∨M+c≤65535): ∀ (t:Tm) (b:Int),formedT t=true→ziv t b≤M→formedT (zeF (zth c) b t)=true
 | .mk k n l,b,h,hf=>by
   rw[ziv]at hf
   have ha:=zvx k b l 0 (if k=1∧b≤n then n else -1)
   rw[zeF]
   split
   ·rename_i hk
    obtain rfl:=zqM h hk
    subst hk
    have hn:=zvJ h
    unfold zth
    split
    ·rename_i hb
     rw[if_pos ⟨rfl,hb⟩]at ha hf
     refine zvT ?_
     rw[zy (by omega) (by omega)]
     omega
    ·exact zvT hn
   ·have hl:zep l=true:=by simp only[formedT,Bool.and_eq_true]at h;exact h.2
    exact zwz h (zv1 _ _ _ _ _) (zwb c M hc hM k b l 0 _ hl hf)
theorem zwb(c M:Int)(hc:0≤c∧c≤1048576)(hM:M <0∨M+c≤65535)(k b:Int): ∀ (l:List Tm) (i acc:Int),zep l=true→zdO k i l b acc≤M→zep (mapTs (zth c) k b i l)=true
 |[],i,acc,_,_=>by rw[mapTs,zep]
 |t::l,i,acc,h,hf=>by
  rw[zdO]at hf
  rw[zep,Bool.and_eq_true]at h
  have h1:=(zwu acc (ziv t (b+zU k i))).2
  have h2:=zvx k b l (i+1) (mxI acc (ziv t (b+zU k i)))
  rw[mapTs,zep,zwr c M hc hM t _ h.1 (by omega),zwb c M hc hM k b l (i+1) _ h.2 hf];rfl
end
mutual
theorem zwB(c:Int): ∀ (t:Tm) (b:Int),formedT t=true→(zeF (zth c) b t).depth=t.depth
 | .mk k n l,b,h=>by
   rw[zeF]
   split
   ·rename_i hk
    obtain rfl:=zqM h hk
    subst hk
    unfold zth
    simp[Tm.depth,zbW]
   ·have hl:zep l=true:=by simp only[formedT,Bool.and_eq_true]at h;exact h.2
    simp only[Tm.depth]
    rw[zwl c k b l 0 hl]
theorem zwl(c:Int)(k b:Int): ∀ (l:List Tm) (i:Int),zep l=true→zbW (mapTs (zth c) k b i l)=zbW l
 |[],i,_=>by rw[mapTs]
 |t::l,i,h=>by
  rw[zep,Bool.and_eq_true]at h
  simp only[mapTs,zbW]
  rw[zwB c t _ h.1,zwl c k b l (i+1) h.2]
end
theorem zw0(k i:Int):0≤zU k i∧zU k i≤1:=by unfold zU;split <;>omega
mutual
theorem zwW: ∀ (t:Tm) (b:Int),formedT t=true→ziv t b≤65535
 | .mk k n l,b,h=>by
   rw[ziv]
   have hl:zep l=true:=by simp only[formedT,Bool.and_eq_true]at h;exact h.2
   refine zwJ k b l 0 _ hl ?_
   split
   ·rename_i q
    obtain⟨rfl,q⟩:=q
    obtain rfl:=zqM h rfl
    have:=zvJ h
    omega
   ·omega
theorem zwJ(k b:Int): ∀ (l:List Tm) (i acc:Int),zep l=true→acc≤65535→zdO k i l b acc≤65535
 |[],i,acc,_,h=>by rw[zdO];exact h
 |t::l,i,acc,hf,h=>by
  rw[zep,Bool.and_eq_true]at hf
  rw[zdO]
  refine zwJ k b l (i+1) _ hf.2 ?_
  have:=zwW t (b+zU k i) hf.1
  unfold mxI;split <;>omega
end
def zwm(l:List Gr):Prop:= ∀ g,g∈l→formedT g.t=true∧g.free=ziv g.t 0∧g.depth=(g.t.depth:Nat)∧g.t.depth≤200
theorem zwF(j:Jb)(n b d:Int)(hn:0≤n∧n≤65535)(hb:0≤b∧b≤900000)(hu:0≤j.under∧j.under≤65535)(hg:zwm j.args)(h:(lookV j n b d).scope=false):
 j.scope=false∧formedT (zcl j j.args.length n b)=true:=by
 unfold lookV at h
 unfold zcl
 split at h
 ·rename_i hw
  obtain⟨a,ha,hm⟩:=zA (zhP hw)
  obtain⟨g1,g2,g3,g4⟩:=hg a hm
  rw[List.getD_eq_getElem?_getD,ha,Option.getD_some]at h
  rw[if_pos hw,List.getD_eq_getElem?_getD,ha,Option.getD_some]
  have hfl:=zwW a.t 0 g1
  simp only[zuZ,Bool.or_eq_false_iff,Bool.and_eq_false_iff,decide_eq_false_iff_not]at h
  refine⟨h.1,?_⟩
  unfold zl8
  refine zwr (j.under+b) a.free (by omega) ?_ a.t 0 g1 (by omega)
  rcases h.2 with q|q
  ·exact .inl (by omega)
  ·by_cases hz:a.free <0
   ·exact .inl hz
   ·rw[zy (by rw[zy (by omega) (by omega)];omega) (by rw[zy (by omega) (by omega)];omega),zy (by omega) (by omega)]at q
    exact .inr (by omega)
 ·rename_i hw
  rw[if_neg hw]
  refine⟨h,?_⟩
  split
  ·rename_i hb2
   have:(j.args.length:Int)≤n-(j.under+b):=by
    unfold zd0 at hw
    rw[if_neg (by omega)]at hw
    split at hw
    ·assumption
    ·omega
   refine zvT ?_
   rw[zy (by omega) (by omega)]
   omega
  ·exact zvT hn
mutual
theorem zvX: ∀ (t:Tm) (j:Jb) (b d:Int),formedT t=true→0≤b→b+t.size≤900000→0≤j.under∧j.under≤65535→zwm j.args→(zdw t j b d).scope=false→
 j.scope=false∧formedT (zeF (zcl j j.args.length) b t)=true
 | .mk k n l,j,b,d,hf,hb,hs,hu,hg,h=>by
   have hz:=(Tm.mk k n l).size_eq
   rw[zdw]at h
   rw[zeF]
   split
   ·rename_i hk
    rw[if_pos hk]at h
    obtain rfl:=zqM hf hk
    subst hk
    exact zwF j n b d (zvJ hf) ⟨hb,by omega⟩ hu hg h
   ·rename_i hk
    rw[if_neg hk]at h
    have hls:zep l=true:=by simp only[formedT,Bool.and_eq_true]at hf;exact hf.2
    have:=zvb k l 0 (nodeJ j d) b d hls hb (by simp only[Tm.kids]at hz;omega) hu hg h
    exact⟨this.1,zwz hf (zv1 _ _ _ _ _) this.2⟩
theorem zvb: ∀ (k:Int) (l:List Tm) (i:Int) (j:Jb) (b d:Int),zep l=true→0≤b→b+1+sizes l≤900000→0≤j.under∧j.under≤65535→zwm j.args→(zbY k i l j b d).scope=false→
 j.scope=false∧zep (mapTs (zcl j j.args.length) k b i l)=true
 |k,[],i,j,b,d,_,_,_,_,_,h=>by rw[zbY]at h;exact⟨h,by rw[mapTs,zep]⟩
 |k,t::l,i,j,b,d,hf,hb,hs,hu,hg,h=>by
  rw[zep,Bool.and_eq_true]at hf
  have hz:=zw0 k i
  simp only[sizes]at hs
  rw[zbY]at h
  obtain⟨k1,k2⟩:=zeO t j (b+zU k i) (d+1)
  have h2:=zvb k l (i+1) (zdw t j (b+zU k i) (d+1)) b d hf.2 hb (by omega) (by rw[k2];exact hu) (by rw[k1];exact hg) h
  have h1:=zvX t j (b+zU k i) (d+1) hf.1 (by omega) (by omega) hu hg h2.1
  rw[k1,zfE k1 k2]at h2
  refine⟨h1.1,?_⟩
  rw[mapTs,zep,h1.2,h2.2];rfl
end
theorem ziu{x:Int}(h0:0≤x)(h:x≤4194304):IntKind.i64.wrap x=x:=zy (by omega) (by omega)
theorem zwL(j:Jb)(m:Nat)(n b d:Int)(hd:0≤d∧d≤900000)(hg:zwm j.args):j.depth≤(lookV j n b d).depth∧d+((zcl j m n b).depth:Nat)≤(lookV j n b d).depth:=by
 unfold lookV zcl
 split
 ·rename_i hw
  obtain⟨a,ha,hm⟩:=zA (zhP hw)
  obtain⟨g1,g2,g3,g4⟩:=hg a hm
  rw[List.getD_eq_getElem?_getD,ha,Option.getD_some]
  have:=zwu j.depth (IntKind.i64.wrap (d+a.depth))
  rw[ziu (by omega) (by omega)]at this
  show j.depth≤mxI j.depth (IntKind.i64.wrap (d+a.depth))∧_≤mxI j.depth (IntKind.i64.wrap (d+a.depth))
  rw[ziu (by omega) (by omega)]
  unfold zl8
  rw[zwB _ _ _ g1]
  omega
 ·have:=zwu j.depth (IntKind.i64.wrap (d+1))
  rw[ziu (by omega) (by omega)]at this
  show j.depth≤mxI j.depth (IntKind.i64.wrap (d+1))∧_≤mxI j.depth (IntKind.i64.wrap (d+1))
  rw[ziu (by omega) (by omega)]
  have e1: ∀ x:Int,(Tm.mk 1 x []).depth=1:=fun x=>by simp[Tm.depth,zbW]
  have:(if j.under+b≤n then Tm.mk 1 (IntKind.i64.wrap (n-(m:Nat))) []else Tm.mk 1 n []).depth=1:=by split <;>exact e1 _
  rw[this]
  omega
mutual
theorem zwe(m:Nat): ∀ (t:Tm) (j:Jb) (b d:Int),0≤d→d+t.size≤900000→zwm j.args→
 j.depth≤(zdw t j b d).depth∧d+((zeF (zcl j m) b t).depth:Nat)≤(zdw t j b d).depth
 | .mk k n l,j,b,d,hd,hs,hg=>by
   have hz:=(Tm.mk k n l).size_eq
   rw[zdw,zeF]
   split
   ·exact zwL j m n b d ⟨hd,by omega⟩ hg
   ·simp only[Tm.kids]at hz
    have h1:=zvV m k l 0 (nodeJ j d) b d hd (by omega) hg
    have h2:=zwu j.depth (IntKind.i64.wrap (d+1))
    rw[ziu (by omega) (by omega)]at h2
    have h3:(nodeJ j d).depth=mxI j.depth (d+1):=by show mxI j.depth (IntKind.i64.wrap (d+1))=_;rw[ziu (by omega) (by omega)]
    rw[zfE (show(nodeJ j d).args=j.args from rfl) (show(nodeJ j d).under=j.under from rfl)]at h1
    simp only[Tm.depth]
    omega
theorem zvV(m:Nat): ∀ (k:Int) (l:List Tm) (i:Int) (j:Jb) (b d:Int),0≤d→d+1+sizes l≤900000→zwm j.args→
 j.depth≤(zbY k i l j b d).depth∧(zbW (mapTs (zcl j m) k b i l)=0∨d+1+(zbW (mapTs (zcl j m) k b i l):Nat)≤(zbY k i l j b d).depth)
 |k,[],i,j,b,d,_,_,_=>by rw[zbY,mapTs];exact⟨Int.le_refl _,.inl (by simp[zbW])⟩
 |k,t::l,i,j,b,d,hd,hs,hg=>by
  simp only[sizes]at hs
  obtain⟨k1,k2⟩:=zeO t j (b+zU k i) (d+1)
  have h1:=zwe m t j (b+zU k i) (d+1) (by omega) (by omega) hg
  have h2:=zvV m k l (i+1) (zdw t j (b+zU k i) (d+1)) b d hd (by omega) (by rw[k1];exact hg)
  rw[zfE k1 k2]at h2
  rw[zbY,mapTs]
  simp only[zbW]
  omega
end
theorem zxc{t:Tm}{args:List Tm}{under:Int}(he:zdx t args under=0):checkT t=0∧(∀ a,a∈args→checkT a=0)∧0≤under∧under≤65535:=by
 unfold zdx at he
 split at he
 ·omega
 ·rename_i h0
  split at he
  ·rename_i a q
   have:=List.find?_some q
   simp at this
   omega
  ·rename_i q
   split at he
   ·omega
   ·exact⟨by omega,fun a ha=>by simpa using List.find?_eq_none.1 q a ha,by omega,by omega⟩
end Go.Proofs.YtokfbblhjpfjkaaGreat
