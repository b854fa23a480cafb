/- Spines of a decoder's, of an eliminator's constant: what is told of their roots, -/
import Derived.Test.YtokfbblhjpfjkaaGreatLScopeS
import Derived.Test.YtokfbblhjpfjkaaGreatGO
set_option linter.unusedSimpArgs false
set_option linter.unusedVariables false
namespace Go.Proofs.YtokfbblhjpfjkaaGreat
open Go.Aw Go.RowKit
theorem zzA{f:Tm}(hf:f.kind≠6): ∀ (n:Nat) (l:List Tm),l.length=n→ ∀ (m:Nat) (acc:List Tm),(zaR f l).size≤m→spN m (zaR f l) acc=(f,acc++l.reverse):=by
 intro n
 induction n with
 |zero=>
  intro l hl m acc _
  obtain rfl:=List.length_eq_zero_iff.1 hl
  show spN m f acc=_
  rw[zc5 (by unfold zbC;rw[decide_eq_false hf];rfl)];simp
 |succ n ih=>
  intro l hl m acc hm
  have hne:l≠[]:=by intro q;subst q;cases hl
  obtain⟨l',a,rfl⟩: ∃ l' a,l=l'++[a]:=⟨l.dropLast,l.getLast hne,(List.dropLast_concat_getLast hne).symm⟩
  rw[zxQ]at hm⊢
  have hs:(Tm.mk 6 0 [zaR f l',a]).size=1+((zaR f l').size+(a.size+0)):=by simp only[Tm.size,sizes];try omega
  have:=a.size_pos
  cases m with
  |zero=>omega
  |succ m=>
   rw[zcn (t:=.mk 6 0 [zaR f l',a]) (f:=zaR f l') (a:=a) rfl rfl,ih l' (by simpa using hl) m _ (by omega)]
   simp
theorem zzf{f:Tm}(hf:f.kind≠6)(l:List Tm):zF (zaR f l)=(f,l):=by
 unfold zF
 rw[zzA hf l.length l rfl _ _ (Nat.le_refl _)]
 simp
theorem zzz{f:Tm}: ∀ l:List Tm,(zaR f l).kind=f.kind∨(zaR f l).kind=6:=fun l=>(Sp.of f l).kind
theorem zzW{env:List En}{j:Nat}{e:En}(h:env[j]? =some e):ofE env (.mk 3 (j:Int) [])=some e:=by
 unfold ofE
 rw[if_pos ⟨rfl,by show(0:Int)≤(j:Int);omega⟩]
 exact h
theorem zzX{env:List En}{j:Int}{l:List Tm}(h:l≠[]):lookR env (zaR (.mk 3 j []) l)=zbE env (zaR (.mk 3 j []) l):=by
 obtain⟨l',a,rfl⟩: ∃ l' a,l=l'++[a]:=⟨l.dropLast,l.getLast h,(List.dropLast_concat_getLast h).symm⟩
 rw[zxQ]
 unfold lookR
 rw[if_pos (show(Tm.mk 6 0 [zaR (.mk 3 j []) l',a]).kind=6 from rfl)]
 show(if(zaR (.mk 3 j []) l').kind=5 then _ else _)=_
 rw[if_neg (by rcases zzz (f:=.mk 3 j []) l' with q|q <;>rw[q] <;>(show ¬_=(5:Int)) <;>first|(show ¬(3:Int)=5;decide)|decide)]
theorem zyV{b:Bl}{base i k:Int}{j:Nat}(h1:zaO b base i=(j:Nat))(h2:zaO b base k=(j:Nat)):i=k:=by
 have:=zhV h1
 have:=zhV h2
 omega
theorem zzM{env:List En}(hE:envI env=0){e x:En}{n j:Nat}{c:Nat}{con:Cn}{args:List Tm}(he:env[n]? =some e)(hx:env[j]? =some x)(h3:3≤e.kind)(h5:x.kind=5)(hb:x.base=e.base)(hj:zaO e.block e.base (c:Nat)=(j:Nat))
 (hc:e.block.cons[c]? =some con) (hs:con.sort=e.which) (hl:args.length=con.args.length):madeV env e (zaR (.mk 3 (j:Int) []) args)=(((c:Nat):Int),args,true):=by
 have hbl:=zyx hE he hx h3 (by omega) hb
 have hn:=(zeY (zez hE hx).1 (by omega)).1
 unfold zce at hn
 rw[if_neg (by omega),if_neg (by omega),if_pos h5,hbl,hb]at hn
 have hw:x.which=(c:Nat):=zyV hn hj
 have hcl:c <e.block.cons.length:=(List.getElem?_eq_some_iff.1 hc).1
 unfold madeV
 rw[zzf (by show(3:Int)≠6;decide),zzW hx]
 simp only
 rw[if_pos ⟨h5,hb,by rw[hw];omega⟩,hw,Int.toNat_natCast,hc]
 simp[hs,hl]
theorem zzF{f a:Tm}(h:checkT (.mk 6 0 [f,a])=0):checkT f=0∧checkT a=0:=⟨zql (p:=[0]) h (by simp[zaZ,Tm.kids]),zql (p:=[1]) h (by simp[zaZ,Tm.kids])⟩
end Go.Proofs.YtokfbblhjpfjkaaGreat
