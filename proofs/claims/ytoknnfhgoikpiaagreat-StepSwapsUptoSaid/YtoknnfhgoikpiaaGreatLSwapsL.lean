/- Steps at two places neither of which is in the other, in plain words. -/
import Derived.Test.YtoknnfhgoikpiaaGreatLPartsL
namespace Go.Proofs.YtoknnfhgoikpiaaGreat
set_option linter.unusedSimpArgs false
set_option linter.unusedVariables false
open Go.Aw Go.RowKit
def zbi(a b:List Int):Bool:=decide (b.length≤a.length)&&decide (a.take b.length=b)
def apB:List Int→List Int→Bool
 |i::a,j::b=>if i=j then apB a b else true
 |_,_=>false
theorem zuk: ∀ (a b:List Int),zbi a b=false→zbi b a=false→apB a b=true
 |[],b,_,h=>by simp[zbi]at h
 |_::_,[],h,_=>by simp[zbi]at h
 |i::a,j::b,h1,h2=>by
  unfold apB
  split
  ·rename_i e
   subst e
   refine zuk a b ?_ ?_
   ·simpa[zbi]using h1
   ·simpa[zbi]using h2
  ·rfl
theorem zqD: ∀ (a b:List Int),apB a b=apB b a
 |[],[]=>rfl
 |[],_::_=>rfl
 |_::_,[]=>rfl
 |i::a,j::b=>by
  unfold apB
  by_cases e:i=j
  ·rw[if_pos e,if_pos e.symm];exact zqD a b
  ·rw[if_neg e,if_neg (fun q=>e q.symm)]
theorem zgL(l:List Tm){i j:Nat}(x:Tm)(h:i≠j):(l.set i x).getD j zT=l.getD j zT:=by
 rw[List.getD_eq_getElem?_getD,List.getD_eq_getElem?_getD,List.getElem?_set_ne h]
theorem zgt(u:Tm): ∀ (a b:List Int) (t:Tm),apB a b=true→(zaZ t a).isSome=true→zaZ (setT t a u) b=zaZ t b
 |[],_,_,h,_=>by simp[apB]at h
 |_::_,[],_,h,_=>by simp[apB]at h
 |i::a,j::b,t,h,ha=>by
  simp only[zaZ]at ha
  split at ha
  ·rename_i hi
   simp only[setT,zaZ,zhz,List.length_set]
   by_cases hj:0≤j∧j <t.kids.length
   ·rw[if_pos hj,if_pos hj]
    by_cases e:i=j
    ·subst e
     rw[zjw _ _ (by omega)]
     exact zgt u a b _ (by simpa[apB]using h) ha
    ·rw[zgL _ _ (by omega)]
   ·rw[if_neg hj,if_neg hj]
  ·cases ha
theorem zkZ(u v:Tm): ∀ (a b:List Int) (t:Tm),apB a b=true→(zaZ t a).isSome=true→(zaZ t b).isSome=true→setT (setT t a u) b v=setT (setT t b v) a u
 |[],_,_,h,_,_=>by simp[apB]at h
 |_::_,[],_,h,_,_=>by simp[apB]at h
 |i::a,j::b,t,h,ha,hb=>by
  simp only[zaZ]at ha hb
  split at ha
  ·rename_i hi
   split at hb
   ·rename_i hj
    simp only[setT,zhz,zqe,zrF]
    by_cases e:i=j
    ·subst e
     rw[zjw _ _ (by omega),zjw _ _ (by omega),List.set_set,List.set_set,zkZ u v a b _ (by simpa[apB]using h) ha hb]
    ·rw[zgL _ _ (by omega),zgL _ _ (by omega),List.set_comm _ _ (by omega)]
   ·cases hb
  ·cases ha
theorem zur{chk:Int}{lk:Tm→Option (Tm×Int)}{t:Tm}{p:List Int}(h:(doR chk lk t p).2=0):
 chk=0∧z8 t=0∧ ∃ v r,zaZ t p=some v∧lk v=some r∧r.2=0∧z8 (setT t p r.1)=0∧(doR chk lk t p).1=setT t p r.1:=by
 by_cases h0:chk=0
 ·by_cases h1:z8 t=0
  ·rw[zpi chk lk t p h0 h1]at h⊢
   refine⟨h0,h1,?_⟩
   cases hf:zaZ t p with
   |none=>
    rw[show makeR lk t p=(zT,10) by unfold makeR;rw[hf]]at h
    cases h
   |some v=>
    cases hk:lk v with
    |none=>
     rw[show makeR lk t p=(zT,10) by unfold makeR;simp only[hf,hk]]at h
     cases h
    |some r=>
     by_cases hr:r.2=0
     ·rw[zgB hf hk hr,zgN]at h⊢
      by_cases hc:z8 (setT t p r.1)=0
      ·rw[zhE hc];exact⟨v,r,rfl,hk,hr,hc,rfl⟩
      ·rw[zgD hc]at h;exact absurd h hc
     ·rw[show makeR lk t p=(zT,r.2) by unfold makeR;simp only[hf,hk];rw[if_pos hr],if_pos hr]at h
      exact absurd h hr
  ·unfold doR at h
   rw[if_neg (by omega),if_pos h1]at h
   exact absurd h h1
 ·unfold doR at h
  rw[if_pos h0]at h
  exact absurd h h0
theorem zrK(t:Tm):z8 t≠10:=by
 unfold z8
 repeat' split
 all_goals decide
theorem zvn{chk:Int}{lk:Tm→Option (Tm×Int)}{t:Tm}{a b:List Int}(ha:(doR chk lk t a).2=0)(hb:(doR chk lk t b).2=0)(hab:apB a b=true):
 (doR chk lk (doR chk lk t a).1 b).2≠10∧((doR chk lk (doR chk lk t a).1 b).2=0→(doR chk lk (doR chk lk t b).1 a).2=0→(doR chk lk (doR chk lk t a).1 b).1=(doR chk lk (doR chk lk t b).1 a).1):=by
 obtain⟨h0,h1,v,r,f1,k1,r1,c1,e1⟩:=zur ha
 obtain⟨_,_,w,s,f2,k2,r2,c2,e2⟩:=zur hb
 rw[e1,e2]
 have g1:zaZ (setT t a r.1) b=some w:=by rw[zgt r.1 a b t hab (by rw[f1];rfl)];exact f2
 have g2:zaZ (setT t b s.1) a=some v:=by rw[zgt s.1 b a t (by rw[zqD];exact hab) (by rw[f2];rfl)];exact f1
 rw[zpi chk lk _ b h0 c1,zpi chk lk _ a h0 c2,zgB g1 k2 r2,zgB g2 k1 r1,zgN,zgN,zkZ r.1 s.1 a b t hab (by rw[f1];rfl) (by rw[f2];rfl)]
 refine⟨?_,fun _ _=>rfl⟩
 by_cases hc:z8 (setT (setT t b s.1) a r.1)=0
 ·rw[zhE hc];show(0:Int)≠10;decide
 ·rw[zgD hc];exact zrK _
end Go.Proofs.YtoknnfhgoikpiaaGreat
