/- Is nothing reduced at a term's places (ahead of one)? In plain words. -/
import Derived.Test.YtoknnfhgoikpiaaGreatGF
namespace Go.Proofs.YtoknnfhgoikpiaaGreat
set_option linter.unusedSimpArgs false
set_option linter.unusedVariables false
open Go.Aw Go.RowKit
def zdm:List Int→List Int→Bool
 |i::a,j::b=>if i=j then zdm a b else decide (i <j)
 |a,b=>decide (a.length <b.length)
theorem zvG(a b:List Int): ∀ x:List Int,zdm (x++a) (x++b)=zdm a b
 |[]=>rfl
 |i::x=>by
  rw[List.cons_append,List.cons_append,zdm,if_pos rfl]
  exact zvG a b x
theorem zwK(x:List Int):zdm x x=false:=by
 have:=zvG [] [] x
 rw[List.append_nil]at this
 rw[this];rfl
def zv9(e:List Int)(bound:Bool)(x:List Int):Bool:=bound&& !zdm x e
mutual
def zkO(lk:Tm→Option (Tm×Int))(e:List Int)(bound:Bool):List Int→Tm→Bool
 |x,.mk k n l=>zv9 e bound x||((lk (.mk k n l)).isNone&&zbr lk e bound x 0 l)
def zbr(lk:Tm→Option (Tm×Int))(e:List Int)(bound:Bool):List Int→Int→List Tm→Bool
 |_,_,[]=>true
 |x,i,t::l=>zkO lk e bound (x++[i]) t&&zbr lk e bound x (i+1) l
end
theorem zwD(lk:Tm→Option (Tm×Int))(e:List Int)(bound:Bool)(x:List Int)(t:Tm):zkO lk e bound x t=(zv9 e bound x||((lk t).isNone&&zbr lk e bound x 0 t.kids)):=by
 cases t;rw[zkO];rfl
theorem zmJ(lk:Tm→Option (Tm×Int))(e:List Int)(bound:Bool)(x:List Int): ∀ (a b:List Tm) (i:Int),zbr lk e bound x i (a++b)=(zbr lk e bound x i a&&zbr lk e bound x (i+a.length) b)
 |[],b,i=>by simp[zbr]
 |t::a,b,i=>by
  rw[List.cons_append,zbr,zbr,zmJ lk e bound x a b (i+1),List.length_cons,Bool.and_assoc,show i+1+(a.length:Int)=i+((a.length+1:Nat):Int) by omega]
theorem zwE{lk:Tm→Option (Tm×Int)}{e:List Int}{bound:Bool}{x:List Int}{l:List Tm}{j:Nat}{k:Tm}(h:l[j]? =some k)(h0:zbr lk e bound x 0 (l.take j)=true)(h1:zkO lk e bound (x++[(j:Int)]) k=true):zbr lk e bound x 0 (l.take (j+1))=true:=by
 have hlt:j <l.length:=(List.getElem?_eq_some_iff.1 h).1
 rw[List.take_add_one,h,Option.toList_some,zmJ,h0,List.length_take,Nat.min_eq_left (Nat.le_of_lt hlt),Int.zero_add]
 simp[zbr,h1]
theorem zwN{lk:Tm→Option (Tm×Int)}{e:List Int}{bound:Bool}{x:List Int}{l:List Tm}{j:Nat}{k:Tm}(h:l[j]? =some k)(h1:zkO lk e bound (x++[(j:Int)]) k=false):zbr lk e bound x 0 l=false:=by
 have hlt:j <l.length:=(List.getElem?_eq_some_iff.1 h).1
 conv=>lhs;rw[←List.take_append_drop j l]
 have hk:l[j]=k:=by rw[List.getElem?_eq_getElem hlt]at h;exact Option.some.inj h
 rw[zmJ,List.drop_eq_getElem_cons hlt,hk,zbr,List.length_take,Nat.min_eq_left (Nat.le_of_lt hlt),Int.zero_add,h1]
 simp
mutual
theorem zvp(lk:Tm→Option (Tm×Int))(e:List Int)(bound:Bool): ∀ (t:Tm) (x:List Int),zc0 lk t=none→zkO lk e bound x t=true
 | .mk k n l,x,h=>by
   rw[zc0]at h
   rw[zkO]
   split at h
   ·cases h
   ·rename_i q
    rw[q,zwd lk e bound l x 0 h];simp
theorem zwd(lk:Tm→Option (Tm×Int))(e:List Int)(bound:Bool): ∀ (l:List Tm) (x:List Int) (i:Int),zbj lk i l=none→zbr lk e bound x i l=true
 |[],x,i,h=>by rw[zbr]
 |t::l,x,i,h=>by
  rw[zbj]at h
  split at h
  ·cases h
  ·rename_i q
   rw[zbr,zvp lk e bound t _ q,zwd lk e bound l x (i+1) h];rfl
end
theorem zvO(lk:Tm→Option (Tm×Int))(x p:List Int)(j:Int): ∀ (l:List Tm) (i:Int),j <i→zbr lk (x++j::p) true x i l=true
 |[],i,h=>by rw[zbr]
 |t::l,i,h=>by
  have ha:zdm (x++[i]) (x++j::p)=false:=by
   rw[zvG,zdm,if_neg (by omega)]
   exact decide_eq_false (by omega)
  rw[zbr,zvO lk x p j l (i+1) (by omega),zwD]
  simp[zv9,ha]
mutual
theorem zwk(lk:Tm→Option (Tm×Int)): ∀ (t:Tm) (x p:List Int),zc0 lk t=some p→zkO lk (x++p) true x t=true
 | .mk k n l,x,p,h=>by
   rw[zc0]at h
   rw[zkO]
   split at h
   ·obtain rfl:=Option.some.inj h
    rw[List.append_nil]
    simp[zv9,zwK]
   ·rename_i q
    rw[q,zv5 lk l x 0 p h];simp
theorem zv5(lk:Tm→Option (Tm×Int)): ∀ (l:List Tm) (x:List Int) (i:Int) (p:List Int),zbj lk i l=some p→zbr lk (x++p) true x i l=true
 |[],x,i,p,h=>by rw[zbj]at h;cases h
 |t::l,x,i,p,h=>by
  rw[zbj]at h
  split at h
  ·rename_i p' q
   obtain rfl:=Option.some.inj h
   rw[zbr,zvO lk x p' i l (i+1) (by omega)]
   have:=zwk lk t (x++[i]) p' q
   rw[List.append_assoc]at this
   rw[show x++i::p'=x++([i]++p')from rfl,this];rfl
  ·rename_i q
   rw[zbr,zvp lk _ true t _ q,zv5 lk l x (i+1) p h];rfl
end
theorem zwv{lk:Tm→Option (Tm×Int)}: ∀ (l:List Tm) (i:Int) (p:List Int),zbj lk i l=some p→ ∃ (j:Nat) (q:List Int) (k:Tm),p=(i+j)::q∧l[j]? =some k∧zc0 lk k=some q
 |[],i,p,h=>by rw[zbj]at h;cases h
 |t::l,i,p,h=>by
  rw[zbj]at h
  split at h
  ·rename_i q hq
   obtain rfl:=Option.some.inj h
   exact⟨0,q,t,by simp,rfl,hq⟩
  ·obtain⟨j,q,k,e1,e2,e3⟩:=zwv l (i+1) p h
   exact⟨j+1,q,k,by rw[e1];congr 1;omega,by simpa using e2,e3⟩
theorem zws{lk:Tm→Option (Tm×Int)}: ∀ (p:List Int) (t:Tm),zc0 lk t=some p→ ∃ u r,zaZ t p=some u∧lk u=some r
 |p,t,h=>by
  rw[zlA]at h
  cases hk:lk t with
  |some r=>
   rw[hk]at h
   obtain rfl:=Option.some.inj h
   exact⟨t,r,by simp[zaZ],hk⟩
  |none=>
   rw[hk]at h
   obtain⟨j,q,k,rfl,e2,e3⟩:=zwv t.kids 0 p h
   obtain⟨u,r,f1,f2⟩:=zws q k e3
   have hlt:j <t.kids.length:=(List.getElem?_eq_some_iff.1 e2).1
   refine⟨u,r,?_,f2⟩
   rw[Int.zero_add,zaZ,if_pos ⟨by omega,by omega⟩,Int.toNat_natCast]
   rw[show t.kids.getD j zT=k by rw[List.getD_eq_getElem?_getD,e2];rfl]
   exact f1
 termination_by p=>p.length
end Go.Proofs.YtoknnfhgoikpiaaGreat
