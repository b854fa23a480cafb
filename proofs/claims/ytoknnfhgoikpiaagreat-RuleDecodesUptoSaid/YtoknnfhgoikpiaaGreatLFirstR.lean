/- What a term is reduced to is right by term.Check, where nothing stops it. -/
import Derived.Test.YtoknnfhgoikpiaaGreatLInstC
import Derived.Test.YtoknnfhgoikpiaaGreatLFirstX
namespace Go.Proofs.YtoknnfhgoikpiaaGreat
set_option linter.unusedSimpArgs false
set_option linter.unusedVariables false
open Go.Aw Go.RowKit
theorem zwQ{t:Tm}(h:z8 t=0){i:Nat}(hi:(i:Int) <zdV t.kind):z8 (t.kids.getD i zT)=0:=by
 have hf:=(zcH h).2.2
 rw[za9]at hf
 simp only[Bool.and_eq_true,decide_eq_true_eq]at hf
 have hlt:i <t.kids.length:=by have:=hf.1.1;omega
 rw[List.getD_eq_getElem?_getD,List.getElem?_eq_getElem hlt]
 exact zvc h (List.getElem_mem hlt)
theorem zwM{b:Bl}{base:Int}{co:Cn}{m:Tm}{x y z:List Tm}(h:(makeT b base co m x y z).2=0):z8 (makeT b base co m x y z).1=0:=by
 unfold makeT at h⊢
 split at h
 ·exact absurd h (by assumption)
 ·rename_i h1
  rw[if_neg h1]
  split at h
  ·exact absurd h (by assumption)
  ·rename_i h2
   rw[if_neg h2]
   exact Classical.not_not.1 h2
theorem zwG{env:List En}{t:Tm}{r:Tm×Int}(h:zbE env t=some r)(h0:r.2=0):z8 r.1=0:=by
 have he: ∀ {e:En} {l:List Tm} {mv:Int×List Tm×Bool},ziX e l mv=some r→z8 r.1=0:=by
  intro e l mv h
  unfold ziX at h
  split at h
  ·obtain⟨con,_,rfl⟩:=Option.map_eq_some_iff.1 h
   exact zwM h0
  ·cases h
 have hd: ∀ {e:En} {mv:Int×List Tm×Bool},zpU e mv=some r→z8 r.1=0:=by
  intro e mv h
  unfold zpU at h
  split at h
  ·obtain⟨con,_,rfl⟩:=Option.map_eq_some_iff.1 h
   exact zww h0
  ·cases h
 unfold zbE at h
 split at h
 ·cases h
 ·split at h
  ·split at h
   ·cases h
   ·split at h
    ·exact he h
    ·cases h
  ·split at h
   ·split at h
    ·exact hd h
    ·cases h
   ·cases h
theorem zwS{env:List En}{t:Tm}{r:Tm×Int}(hE:envI env=0)(hc:z8 t=0)(h:lookR env t=some r)(h0:r.2=0):z8 r.1=0:=by
 have hkid: ∀ {k:Tm} {l:List Tm},t.kids=l→k∈l→z8 k=0:=fun e hm=>zvc hc (by rw[e];exact hm)
 unfold lookR at h
 split at h
 ·split at h
  ·split at h
   ·obtain rfl:=Option.some.inj h
    exact zww h0
   ·exact zwG h h0
  ·cases h
 ·split at h
  ·split at h
   ·rename_i p hk
    split at h
    ·rename_i h8
     obtain rfl:=Option.some.inj h
     exact zwQ (hkid hk List.mem_cons_self) (by rw[h8];decide)
    ·cases h
   ·cases h
  ·split at h
   ·split at h
    ·rename_i p hk
     split at h
     ·rename_i h8
      obtain rfl:=Option.some.inj h
      exact zwQ (hkid hk List.mem_cons_self) (by rw[h8];decide)
     ·cases h
    ·cases h
   ·split at h
    ·split at h
     ·rename_i a b p hk
      split at h
      ·rename_i h12
       obtain rfl:=Option.some.inj h
       have hb:=zcH (hkid hk (List.mem_cons_of_mem _ List.mem_cons_self):z8 b=0)
       have hp:z8 p=0:=hkid hk (List.mem_cons_of_mem _ (List.mem_cons_of_mem _ List.mem_cons_self))
       have hq:=zcH (zwQ hp (i:=1) (by rw[h12];decide))
       have ht:=zcH hc
       have hz:=t.size_eq
       have hpz:=p.size_eq
       have hq1:=zdI p.kids 1
       rw[hk]at hz
       simp only[sizes]at hz
       have hd1:b.depth≤zbW t.kids:=zaU (by rw[hk];exact List.mem_cons_of_mem _ List.mem_cons_self)
       have hd2:p.depth≤zbW t.kids:=zaU (by rw[hk];exact List.mem_cons_of_mem _ (List.mem_cons_of_mem _ List.mem_cons_self))
       have hdt:t.depth=1+zbW t.kids:=by cases t;simp[Tm.depth,Tm.kids,Nat.add_comm]
       have hdp:p.depth=1+zbW p.kids:=by cases p;simp[Tm.depth,Tm.kids,Nat.add_comm]
       have hlp:1 <p.kids.length:=by
        have hf:=(zcH hp).2.2
        rw[za9]at hf
        simp only[Bool.and_eq_true,decide_eq_true_eq]at hf
        have:=hf.1.1
        rw[h12,show zdV 12=2 from rfl]at this
        omega
       have hd3:(p.kids.getD 1 zT).depth≤zbW p.kids:=zaU (by
        rw[List.getD_eq_getElem?_getD,List.getElem?_eq_getElem hlp];exact List.getElem_mem hlp)
       unfold z8
       rw[if_neg (by simp only[Tm.size,sizes];omega),if_neg (by simp only[Tm.depth,zbW];omega),if_pos (by simp only[formedT,zep,hb.2.2,hq.2.2];rfl)]
      ·cases h
     ·cases h
    ·split at h
     ·split at h
      ·rename_i e he
       split at h
       ·rename_i hk2
        obtain rfl:=Option.some.inj h
        obtain⟨j,hj⟩:=ziR he
        have hr:=(zez hE hj).1
        unfold zcj at hr
        rw[if_neg (by omega),if_pos hk2]at hr
        simp only[Bool.and_eq_true]at hr
        have hs:=hr.2.2.2.2
        unfold zcY at hs
        simp only[Bool.and_eq_true,decide_eq_true_eq]at hs
        exact hs.2.2.1
       ·cases h
      ·cases h
     ·cases h
end Go.Proofs.YtoknnfhgoikpiaaGreat
