/- Spines of a decoder's, of an eliminator's constant: what is told of their roots, -/
import Derived.Test.YtoknnfhgoikpiaaGreatLScopeS
import Derived.Test.YtoknnfhgoikpiaaGreatLNormE
namespace Go.Proofs.YtoknnfhgoikpiaaGreat
set_option linter.unusedSimpArgs false
set_option linter.unusedVariables false
open Go.Aw Go.RowKit
theorem zzA{f:Tm}(hf:f.kind≠6): ∀ (n:Nat) (l:List Tm),l.length=n→ ∀ (m:Nat) (acc:List Tm),(zaR f l).size≤m→spN m (zaR f l) acc=(f,acc++l.reverse):=by
 intro n
 induction n with
 |zero=>
  intro l hl m acc _
  obtain rfl:=List.length_eq_zero_iff.1 hl
  show spN m f acc=_
  rw[zc5 (by unfold zbC;rw[decide_eq_false hf];rfl)];simp
 |succ n ih=>
  intro l hl m acc hm
  have hne:l≠[]:=by intro q;subst q;cases hl
  obtain⟨l',a,rfl⟩: ∃ l' a,l=l'++[a]:=⟨l.dropLast,l.getLast hne,(List.dropLast_concat_getLast hne).symm⟩
  rw[zxQ]at hm⊢
  have hs:(Tm.mk 6 0 [zaR f l',a]).size=1+((zaR f l').size+(a.size+0)):=by simp only[Tm.size,sizes];try omega
  have:=a.size_pos
  cases m with
  |zero=>omega
  |succ m=>
   rw[zcn (t:=.mk 6 0 [zaR f l',a]) (f:=zaR f l') (a:=a) rfl rfl,ih l' (by simpa using hl) m _ (by omega)]
   simp
theorem zzf{f:Tm}(hf:f.kind≠6)(l:List Tm):zF (zaR f l)=(f,l):=by
 unfold zF
 rw[zzA hf l.length l rfl _ _ (Nat.le_refl _)]
 simp
theorem zzz{f:Tm}: ∀ l:List Tm,(zaR f l).kind=f.kind∨(zaR f l).kind=6:=fun l=>(Sp.of f l).kind
theorem zzW{env:List En}{j:Nat}{e:En}(h:env[j]? =some e):ofE env (.mk 3 (j:Int) [])=some e:=by
 unfold ofE
 rw[if_pos ⟨rfl,by show(0:Int)≤(j:Int);omega⟩]
 exact h
theorem zzX{env:List En}{j:Int}{l:List Tm}(h:l≠[]):lookR env (zaR (.mk 3 j []) l)=zbE env (zaR (.mk 3 j []) l):=by
 obtain⟨l',a,rfl⟩: ∃ l' a,l=l'++[a]:=⟨l.dropLast,l.getLast h,(List.dropLast_concat_getLast h).symm⟩
 rw[zxQ]
 unfold lookR
 rw[if_pos (show(Tm.mk 6 0 [zaR (.mk 3 j []) l',a]).kind=6 from rfl)]
 show(if(zaR (.mk 3 j []) l').kind=5 then _ else _)=_
 rw[if_neg (by rcases zzz (f:=.mk 3 j []) l' with q|q <;>rw[q] <;>(show ¬_=(5:Int)) <;>first|(show ¬(3:Int)=5;decide)|decide)]
theorem zyV{b:Bl}{base i k:Int}{j:Nat}(h1:zaO b base i=(j:Nat))(h2:zaO b base k=(j:Nat)):i=k:=by
 have:=zhV h1
 have:=zhV h2
 omega
theorem zzM{env:List En}(hE:envI env=0){e x:En}{n j:Nat}{c:Nat}{con:Cn}{args:List Tm}(he:env[n]? =some e)(hx:env[j]? =some x)(h3:3≤e.kind)(h5:x.kind=5)(hb:x.base=e.base)(hj:zaO e.block e.base (c:Nat)=(j:Nat))
 (hc:e.block.cons[c]? =some con) (hs:con.sort=e.which) (hl:args.length=con.args.length):madeV env e (zaR (.mk 3 (j:Int) []) args)=(((c:Nat):Int),args,true):=by
 have hbl:=zyx hE he hx h3 (by omega) hb
 have hn:=(zeY (zez hE hx).1 (by omega)).1
 unfold zce at hn
 rw[if_neg (by omega),if_neg (by omega),if_pos h5,hbl,hb]at hn
 have hw:x.which=(c:Nat):=zyV hn hj
 have hcl:c <e.block.cons.length:=(List.getElem?_eq_some_iff.1 hc).1
 unfold madeV
 rw[zzf (by show(3:Int)≠6;decide),zzW hx]
 simp only
 rw[if_pos ⟨h5,hb,by rw[hw];omega⟩,hw,Int.toNat_natCast,hc]
 simp[hs,hl]
theorem zzv{env:List En}(hE:envI env=0){e x:En}{n j:Nat}{c:Nat}{con:Cn}{s:Sr}{pre args:List Tm}(he:env[n]? =some e)(hx:env[j]? =some x)(h4:e.kind=4)(h5:x.kind=5)(hb:x.base=e.base)(hj:zaO e.block e.base (c:Nat)=(j:Nat))
 (hc:e.block.cons[c]? =some con) (hs:con.sort=e.which) (hl:args.length=con.args.length) (hso:e.block.sorts[e.which.toNat]? =some s) (hp:pre.length=s.idx.length):
 lookR env (zaR (.mk 3 (n:Int) []) (pre++[zaR (.mk 3 (j:Int) []) args]))=some (instT con.dec args 0):=by
 rw[zzX (by simp)]
 unfold zbE
 rw[zzf (by show(3:Int)≠6;decide),zzW he]
 simp only
 rw[if_neg (by omega),if_pos h4,if_pos (by unfold znU;rw[hso];simp[hp])]
 have hlast:lastT (pre++[zaR (.mk 3 (j:Int) []) args])=zaR (.mk 3 (j:Int) []) args:=by unfold lastT;simp
 rw[hlast,zzM hE he hx (by omega) h5 hb hj hc hs hl]
 unfold zpU
 simp[hc]
theorem zzH(t:Tm)(args:List Tm)(u:Int):(if(instT t args u).2≠0 then(zT,(instT t args u).2)else((instT t args u).1,0))=instT t args u:=by
 by_cases h:(instT t args u).2=0
 ·rw[if_neg (by omega)]
  exact Prod.ext rfl h.symm
 ·rw[if_pos h]
  refine Prod.ext ?_ rfl
  show zT=(instT t args u).1
  unfold instT at h⊢
  by_cases h1:zdx t args u≠0
  ·rw[if_pos h1]
  rw[if_neg h1]at h⊢
  by_cases h2:(zeG t args u).scope=true
  ·rw[if_pos h2]
  rw[if_neg h2]at h⊢
  by_cases h3:6000 <(zeG t args u).size
  ·rw[if_pos h3]
  rw[if_neg h3]at h⊢
  by_cases h4:200 <(zeG t args u).depth
  ·rw[if_pos h4]
  rw[if_neg h4]at h
  exact absurd rfl h
theorem zzF{f a:Tm}(h:z8 (.mk 6 0 [f,a])=0):z8 f=0∧z8 a=0:=⟨zql (p:=[0]) h (by simp[zaZ,Tm.kids]),zql (p:=[1]) h (by simp[zaZ,Tm.kids])⟩
theorem zzg{f:Tm}: ∀ (n:Nat) (l:List Tm),l.length=n→z8 (zaR f l)=0→z8 f=0∧ ∀ a,a∈l→z8 a=0:=by
 intro n
 induction n with
 |zero=>
  intro l hl h
  obtain rfl:=List.length_eq_zero_iff.1 hl
  exact⟨h,fun a q=>by simp at q⟩
 |succ n ih=>
  intro l hl h
  have hne:l≠[]:=by intro q;subst q;cases hl
  obtain⟨l',a,rfl⟩: ∃ l' a,l=l'++[a]:=⟨l.dropLast,l.getLast hne,(List.dropLast_concat_getLast hne).symm⟩
  rw[zxQ]at h
  obtain⟨h1,h2⟩:=zzF h
  obtain⟨h3,h4⟩:=ih l' (by simpa using hl) h1
  exact⟨h3,fun x hx=>by
   rcases List.mem_append.1 hx with q|q
   ·exact h4 x q
   ·obtain rfl:=List.mem_singleton.1 q;exact h2⟩
end Go.Proofs.YtoknnfhgoikpiaaGreat
