/- Is nothing reduced at a term's places (ahead of one)? -/
import Derived.Test.YtoknnfhgoikpiaaGreatLFirstW
namespace Go.Proofs.YtoknnfhgoikpiaaGreat
set_option linter.unusedSimpArgs false
set_option linter.unusedVariables false
open Go.Aw Go.RowKit
def zvW:List (Nat×List Nat):=[(0,[]),(1,[]),(2,[1]),(3,[]),(4,[1,2,3]),(5,[1,2,3,4]),(6,[]),(7,[]),(8,[6,7]),(9,[]),(10,[9]),(11,[6,7,8,9,10]),(12,[]),(13,[]),(14,[0,1,2,3,4,5,6,7,8,9,10,11,12,13]),(15,[0,1,2,3,4,5,6,7,8,9,10,11,12,13,14])]
attribute [local irreducible] WL AC WD WE MStep OkOp
attribute [local irreducible] zfd zvN
theorem zw7{env:List En}{t:Tm}(he:envI env=0)(hc:z8 t=0):isR env t=(lookR env t).isSome:=by
 unfold isR;rw[decide_eq_true he,decide_eq_true hc];rfl
theorem zvc{t k:Tm}(h:z8 t=0)(hk:k∈t.kids):z8 k=0:=by
 obtain⟨j,hj,rfl⟩:=List.getElem_of_mem hk
 refine zql h (p:=[(j:Int)]) ?_
 rw[zaZ,if_pos ⟨by omega,by omega⟩,Int.toNat_natCast,zaZ,List.getD_eq_getElem?_getD,List.getElem?_eq_getElem hj];rfl
theorem zxd(x:List Int)(j:Int):(sI (x++[j]):AV)=.lst 1 (rsI x++[[.int .i64 j]]) false:=by
 show AV.lst 1 (rsI (x++[j])) false=_
 rw[zvE];rfl
set_option maxHeartbeats 16000000 in
theorem zw3(env:List En)(hl:zbJ env≤1048576)(hE:envI env=0)(e:List Int)(he:e.length≤1048576)(bound:Bool): ∀ n,n≤6000→ ∀ t:Tm,t.size≤n→z8 t=0→ ∀ x:List Int,x.length+n≤1048576→
 FC Tryz.prog 57 [sE env,aT t,sI x,sI e,.bool bound] (.bool (zkO (lookR env) e bound x t)):=by
 intro n
 induction n with
 |zero=>intro _ t ht;have:=t.size_pos;omega
 |succ n ih=>
 intro hn t ht hc x hx
 have hs:=t.size_eq
 have htl:=zM t.kids
 have hxl:=zap x
 have ha:=zwR x e (by omega) he
 have hi:=zwO env t hl (by omega)
 rw[zw7 hE hc]at hi
 rw[zwD]
 by_cases hst:zv9 e bound x=true
 ·rw[hst,Bool.true_or]
  obtain⟨rfl,hq⟩:bound=true∧zdm x e=false:=by unfold zv9 at hst;simpa using hst
  rw[hq]at ha
  refine zo hty Tryz.func57 rfl rfl rfl fun w0=>?_
  repeat'(first|refine zv 0 rfl ha rfl rfl rfl ?_|refine WL_p hty rfl rfl ?_|refine zh ?_|refine zi ?_|refine za ?_|refine zf ?_|refine ze ?_|refine zd rfl ?_|refine zbZ rfl ?_|refine zl ?_|refine zg ?_|refine zx rfl rfl ?_|refine zq rfl rfl rfl ?_|refine zot rfl rfl rfl ?_|refine zr rfl rfl rfl ?_|refine zb rfl ?_|refine zj rfl rfl rfl rfl (fun _=>?_) (fun _=>?_)|refine zk rfl (fun _=>?_) (fun _=>?_))
  all_goals rfl
 ·have hst:zv9 e bound x=false:=by simpa using hst
  rw[hst,Bool.false_or]
  have hgo:bound=false∨(bound=true∧zdm x e=true):=by unfold zv9 at hst;cases bound <;>simp_all
  cases hk:lookR env t with
  |some u=>
   rw[hk]at hi
   refine zo hty Tryz.func57 rfl rfl rfl fun w0=>?_
   rcases hgo with rfl|⟨rfl,hq⟩
   ·repeat'(first|refine zv 0 rfl hi rfl rfl rfl ?_|refine WL_p hty rfl rfl ?_|refine zh ?_|refine zi ?_|refine za ?_|refine zf ?_|refine ze ?_|refine zd rfl ?_|refine zbZ rfl ?_|refine zl ?_|refine zg ?_|refine zx rfl rfl ?_|refine zq rfl rfl rfl ?_|refine zot rfl rfl rfl ?_|refine zr rfl rfl rfl ?_|refine zb rfl ?_|refine zj rfl rfl rfl rfl (fun _=>?_) (fun _=>?_)|refine zk rfl (fun _=>?_) (fun _=>?_))
    all_goals rfl
   ·rw[hq]at ha
    repeat'(first|refine zv 0 rfl ha rfl rfl rfl ?_|refine zv 0 rfl hi rfl rfl rfl ?_|refine WL_p hty rfl rfl ?_|refine zh ?_|refine zi ?_|refine za ?_|refine zf ?_|refine ze ?_|refine zd rfl ?_|refine zbZ rfl ?_|refine zl ?_|refine zg ?_|refine zx rfl rfl ?_|refine zq rfl rfl rfl ?_|refine zot rfl rfl rfl ?_|refine zr rfl rfl rfl ?_|refine zb rfl ?_|refine zj rfl rfl rfl rfl (fun _=>?_) (fun _=>?_)|refine zk rfl (fun _=>?_) (fun _=>?_))
    all_goals rfl
  |none=>
   rw[hk]at hi
   rw[show((none:Option (Tm×Int)).isNone&&zbr (lookR env) e bound x 0 t.kids)=zbr (lookR env) e bound x 0 t.kids from Bool.true_and _]
   obtain⟨S,hS⟩: ∃ S:Nat→Tm→Bool,∀ j k,S j k=zkO (lookR env) e bound (x++[(j:Int)]) k:=⟨_,fun _ _=>rfl⟩
   obtain⟨J,hJ⟩: ∃ J:Nat→Prop,∀ j,J j=(zbr (lookR env) e bound x 0 (t.kids.take j)=true):=⟨_,fun _=>rfl⟩
   obtain⟨R,hR⟩: ∃ R,zbr (lookR env) e bound x 0 t.kids=R:=⟨_,rfl⟩
   have j0:J 0:=by rw[hJ,List.take_zero,zbr]
   have jn: ∀ j k,t.kids[j]? =some k→J j→S j k=true→J (j+1):=fun j k h1 h2 h3=>by rw[hJ]at h2⊢;rw[hS]at h3;exact zwE h1 h2 h3
   have jh: ∀ j k,t.kids[j]? =some k→S j k=false→R=false:=fun j k h1 h3=>by rw[hS]at h3;rw[←hR];exact zwN h1 h3
   have je:J t.kids.length→R=true:=fun h2=>by rw[hJ,List.take_length]at h2;rw[←hR];exact h2
   rw[hR]
   have hkid: ∀ (j:Nat) (k:Tm),t.kids[j]? =some k→FC Tryz.prog 57 [sE env,aT k,.lst 1 (rsI x++[[.int .i64 (j:Nat)]]) false,sI e,.bool bound] (.bool (S j k)):=fun j k hj=>by
    rw[hS]
    have hm:=List.mem_of_getElem? hj
    have:=zK hm
    have h0:=ih (by omega) k (by omega) (zvc hc hm) (x++[(j:Int)]) (by rw[List.length_append];simp only[List.length_cons,List.length_nil];omega)
    rw[zxd]at h0
    exact h0
   dsimp only[sI]at ha hkid
   have hxz:rsI x=[]∨ ∃ r0 rp,rsI x=r0::rp:=by cases rsI x with|nil=>exact .inl rfl|cons r0 rp=>exact .inr ⟨r0,rp,rfl⟩
   show FC Tryz.prog 57 [.lst 12 (rsE env) false,aT t,.lst 1 (rsI x) false,.lst 1 (rsI e) false,.bool bound] _
   refine zo hty Tryz.func57 rfl rfl rfl fun w0=>?_
   clear hR hJ hS ih hst
   rcases hgo with hb|⟨hb,hq⟩
   all_goals
    first
     |rw[hq]at ha
     |skip
    subst hb
    repeat'(first|refine zv 0 rfl ha rfl rfl rfl ?_|refine zv 0 rfl hi rfl rfl rfl ?_|refine WL_p hty rfl rfl ?_|refine zh ?_|refine zi ?_|refine za ?_|refine zf ?_|refine ze ?_|refine zd rfl ?_|refine zbZ rfl ?_|refine zl ?_|refine zg ?_|refine zx rfl rfl ?_|refine zq rfl rfl rfl ?_|refine zot rfl rfl rfl ?_|refine zr rfl rfl rfl ?_|refine zb rfl ?_|refine zj rfl rfl rfl rfl (fun _=>?_) (fun _=>?_)|refine zk rfl (fun _=>?_) (fun _=>?_))
    first
     |refine zW t.kids.length J (fun j=>⟨envOf [(0,.lst 12 (rsE env) false),(2,.lst 1 (rsI x) false),(3,.lst 1 (rsI e) false),(4,.bool true),(6,.ptr 6 0),(11,.int .i64 (j:Nat))],bkOf [(6,.box (cT t))]⟩) (zfY ⟨(zz rfl rfl),(zz rfl rfl),(zz rfl rfl),(zz rfl rfl),(zz rfl rfl),(zz rfl rfl),trivial⟩ ⟨(zw rfl rfl),trivial⟩) j0 ?_
     |refine zW t.kids.length J (fun j=>⟨envOf [(0,.lst 12 (rsE env) false),(2,.lst 1 (rsI x) false),(3,.lst 1 (rsI e) false),(4,.bool false),(6,.ptr 6 0),(11,.int .i64 (j:Nat))],bkOf [(6,.box (cT t))]⟩) (zfY ⟨(zz rfl rfl),(zz rfl rfl),(zz rfl rfl),(zz rfl rfl),(zz rfl rfl),(zz rfl rfl),trivial⟩ ⟨(zw rfl rfl),trivial⟩) j0 ?_
    intro j hj hI
    repeat'(first|refine WL_p hty rfl rfl ?_|refine zh ?_|refine zi ?_|refine za ?_|refine zf ?_|refine ze ?_|refine zd rfl ?_|refine zbZ rfl ?_|refine zl ?_|refine zg ?_|refine zx rfl rfl ?_|refine zq rfl rfl rfl ?_|refine zot rfl rfl rfl ?_|refine zr rfl rfl rfl ?_|refine zb rfl ?_)
    refine zj rfl rfl rfl rfl (fun hcc=>?_) (fun hcc=>?_)
    ·have hlt:j <t.kids.length:=by rw[zeb]at hcc;omega
     obtain⟨k,hk2,hmem⟩:=zA hlt
     have rk:=zac hk2
     have hkf:=hkid j k hk2
     cases hp:S j k with
     |true=>
      rw[hp]at hkf
      rcases hxz with q|⟨r0,rp,q⟩
      all_goals
       rw[q]at hkf hxl⊢
       repeat'(first|(refine za8 (id:=8) ?_;refine zD (id:=8) zvW rfl (by kernel_rfl) ?_)|refine WE_m rfl (zlC hty rfl rfl rfl rfl rfl rfl rfl) ?_|refine WE_m rfl (zwj (d:=some 37) hty 201 rfl rfl rfl rfl rfl rfl rfl (List.cons_ne_nil _ _) (by simp only[List.length_nil,List.length_cons]at*;omega) rfl rfl rfl) ?_|refine WE_m rfl (zwj (d:=some 40) hty 202 rfl rfl rfl rfl rfl rfl rfl (List.cons_ne_nil _ _) (by simp only[List.length_nil,List.length_cons]at*;omega) rfl rfl rfl) ?_|refine WE_m rfl (zuC (d:=some 40) hty 202 rfl rfl rfl rfl rfl rfl rfl rfl (List.cons_ne_nil _ _) (by simp only[List.length_append,List.length_nil,List.length_cons]at*;omega) rfl rfl rfl) ?_|refine zad 0 rfl hkf rfl rfl rfl ?_|refine zu (.inl ⟨rfl,zI hty rfl rfl⟩) ?_|refine zu (.inl ⟨rfl,zm hty rfl rfl rfl (by assumption) rfl⟩) ?_|refine zS ⟨by kernel_rfl,?_⟩|refine WL_p hty rfl rfl ?_|refine zh ?_|refine zi ?_|refine za ?_|refine zf ?_|refine ze ?_|refine zd rfl ?_|refine zbZ rfl ?_|refine zl ?_|refine zg ?_|refine zx rfl rfl ?_|refine zq rfl rfl rfl ?_|refine zot rfl rfl rfl ?_|refine zr rfl rfl rfl ?_|refine zb rfl ?_|refine zj rfl rfl rfl rfl (fun _=>?_) (fun _=>?_)|refine zk rfl (fun _=>?_) (fun _=>?_))
       rw[←q]
       refine⟨hlt,jn j k hk2 hI hp,(zfY ⟨(zz rfl rfl),(zz rfl rfl),(zz rfl rfl),(zz rfl rfl),(zz rfl rfl),⟨_,rfl,zO ?_ rfl⟩,trivial⟩ ⟨(zw rfl rfl),trivial⟩)⟩
       exact congrArg (AV.int .i64) ((zy (by omega) (by omega)).trans (by omega))
     |false=>
      rw[hp]at hkf
      rw[jh j k hk2 hp]
      rcases hxz with q|⟨r0,rp,q⟩
      all_goals
       rw[q]at hkf hxl⊢
       repeat'(first|(refine za8 (id:=8) ?_;refine zD (id:=8) zvW rfl (by kernel_rfl) ?_)|refine WE_m rfl (zlC hty rfl rfl rfl rfl rfl rfl rfl) ?_|refine WE_m rfl (zwj (d:=some 37) hty 201 rfl rfl rfl rfl rfl rfl rfl (List.cons_ne_nil _ _) (by simp only[List.length_nil,List.length_cons]at*;omega) rfl rfl rfl) ?_|refine WE_m rfl (zwj (d:=some 40) hty 202 rfl rfl rfl rfl rfl rfl rfl (List.cons_ne_nil _ _) (by simp only[List.length_nil,List.length_cons]at*;omega) rfl rfl rfl) ?_|refine WE_m rfl (zuC (d:=some 40) hty 202 rfl rfl rfl rfl rfl rfl rfl rfl (List.cons_ne_nil _ _) (by simp only[List.length_append,List.length_nil,List.length_cons]at*;omega) rfl rfl rfl) ?_|refine zad 0 rfl hkf rfl rfl rfl ?_|refine zu (.inl ⟨rfl,zI hty rfl rfl⟩) ?_|refine zu (.inl ⟨rfl,zm hty rfl rfl rfl (by assumption) rfl⟩) ?_|refine zS ⟨by kernel_rfl,?_⟩|refine WL_p hty rfl rfl ?_|refine zh ?_|refine zi ?_|refine za ?_|refine zf ?_|refine ze ?_|refine zd rfl ?_|refine zbZ rfl ?_|refine zl ?_|refine zg ?_|refine zx rfl rfl ?_|refine zq rfl rfl rfl ?_|refine zot rfl rfl rfl ?_|refine zr rfl rfl rfl ?_|refine zb rfl ?_|refine zj rfl rfl rfl rfl (fun _=>?_) (fun _=>?_)|refine zk rfl (fun _=>?_) (fun _=>?_))
       all_goals rfl
    ·obtain rfl:j=t.kids.length:=by rw[zeb]at hcc;omega
     rw[je hI]
     repeat'(first|refine WL_p hty rfl rfl ?_|refine zh ?_|refine zi ?_|refine za ?_|refine zf ?_|refine ze ?_|refine zd rfl ?_|refine zbZ rfl ?_|refine zl ?_|refine zg ?_|refine zx rfl rfl ?_|refine zq rfl rfl rfl ?_|refine zot rfl rfl rfl ?_|refine zr rfl rfl rfl ?_|refine zb rfl ?_|refine zj rfl rfl rfl rfl (fun _=>?_) (fun _=>?_)|refine zk rfl (fun _=>?_) (fun _=>?_))
     all_goals rfl
end Go.Proofs.YtoknnfhgoikpiaaGreat
