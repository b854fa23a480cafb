/- Which constant of a block a number is, in plain words.; Terms and numbers are to -/
import Derived.Test.YtokfbblhjpfjkaaGreatGG
import Derived.Test.YtokfbblhjpfjkaaGreatGB
import Derived.Test.YtokfbblhjpfjkaaGreatGC
import Derived.Test.YtokfbblhjpfjkaaGreatGH
set_option linter.unusedSimpArgs false
set_option linter.unusedVariables false
namespace Go.Proofs.YtokfbblhjpfjkaaGreat
open Go.Aw Go.RowKit
theorem zcf{base a k m n:Int}(h:zb3 base a k m=n)(hn:0≤n):0≤base∧base≤65535∧0≤k∧k <m∧n=base+a+k:=by
 unfold zb3 at h
 repeat'(split at h)
 all_goals omega
theorem zfh{b:Bl}{base k n:Int}(h:zaL b base k=n)(hn:0≤n):0≤base∧base≤65535∧0≤k∧k <b.sorts.length∧decS b k=true∧n=base+b.sorts.length+zaX (b.sorts.take k.toNat):=by
 unfold zaL at h
 split at h
 ·omega
 ·split at h
  ·omega
  ·split at h
   ·rename_i h1 h2 h3
    have:=zcf h hn
    exact⟨this.1,this.2.1,by omega,by omega,h3,this.2.2.2.2⟩
   ·omega
theorem zpI(l:List Sr){i j:Nat}(h:i≤j):zaX (l.take i)≤zaX (l.take j):=by
 have:l.take i=(l.take j).take i:=by rw[List.take_take,Nat.min_eq_left h]
 rw[this]
 exact(List.take_sublist i _).countP_le
theorem zlh(l:List Sr)(i:Nat):zaX (l.take i)≤zaX l:=(List.take_sublist i _).countP_le
theorem zmX{b:Bl}{k:Int}(h0:0≤k)(h:decS b k=true){j:Nat}(hj:k.toNat <j):zaX (b.sorts.take k.toNat) <zaX (b.sorts.take j):=by
 unfold decS at h
 cases hs:b.sorts[k.toNat]? with
 |none=>rw[hs]at h;cases h
 |some s=>
  rw[hs]at h
  have h1:=zdu hs
  rw[if_pos h]at h1
  have:=zpI b.sorts (show k.toNat+1≤j by omega)
  omega
theorem zeW{b:Bl}{k:Int}(h0:0≤k)(h:decS b k=true):zaX (b.sorts.take k.toNat) <zaX b.sorts:=by
 have:=zmX h0 h (j:=k.toNat+1) (by omega)
 exact Nat.lt_of_lt_of_le this (zlh _ _)
theorem zk0{p:Nat→Bool}{m:Nat}(h: ∀ i,i <m→p i=false):(List.range m).any p=false:=by
 rw[List.any_eq_false]
 intro x hx
 rw[h x (List.mem_range.1 hx)];exact Bool.false_ne_true
theorem ziS{kd:Int}{m:Nat}{f:Int→Int}{l:List (Int×Nat×(Int→Int))}{n:Int}{k:Nat}(hk:k <m)(hf:f k=n)(hu: ∀ i:Nat,i <k→f i≠n):ofL ((kd,m,f)::l) n=(kd,(k:Int)):=by
 have hid:idxF (fun i:Nat=>decide (f i=n)) (List.range m)=(k:Nat):=by
  refine zdi (a:=k) (by simp[hf]) ?_ (zhB hk)
  rw[List.take_range,Nat.min_eq_left (Nat.le_of_lt hk)]
  exact zk0 fun i hi=>decide_eq_false (hu i hi)
 simp only[ofL,hid]
 rw[if_pos (Int.natCast_nonneg _)]
theorem zcq{kd:Int}{m:Nat}{f:Int→Int}{l:List (Int×Nat×(Int→Int))}{n:Int}(hu: ∀ i:Nat,i <m→f i≠n):ofL ((kd,m,f)::l) n=ofL l n:=by
 have hid:idxF (fun i:Nat=>decide (f i=n)) (List.range m)= -1:=zcG (zk0 fun i hi=>decide_eq_false (hu i hi))
 simp only[ofL,hid]
 rw[if_neg (by decide)]
theorem zlJ{b:Bl}{base n:Int}(h0:0≤base)(h1:base≤65535)(h2:base≤n)(h3:n-base <countN b):ofB b base n=ofL (zej b base) n:=by
 unfold ofB
 rw[if_neg (by omega),if_neg (by omega),if_neg (by omega),if_neg (by omega)]
theorem zoN{b:Bl}{base n:Int}{k:Nat}(h:zca b base k=n)(hn:0≤n):ofB b base n=(3,(k:Int)):=by
 have q:=zcf h hn
 rw[zlJ q.1 q.2.1 (by omega) (by unfold countN;omega)]
 refine ziS (by omega) h fun i hi e=>?_
 have:=zcf e hn
 omega
theorem zjV{b:Bl}{base n:Int}(hn:0≤n)(h:base+b.sorts.length≤n)(i:Nat):zca b base i≠n:=fun e=>by
 have:=zcf e hn;omega
theorem zlw{b:Bl}{base n:Int}(hn:0≤n)(h:base+b.sorts.length+zaX b.sorts≤n)(i:Nat):zaL b base i≠n:=fun e=>by
 have h1:=zfh e hn
 have:=zeW h1.2.2.1 h1.2.2.2.2.1
 omega
theorem zuX{b:Bl}{base n:Int}(hn:0≤n)(h:base+b.sorts.length+zaX b.sorts+b.cons.length≤n)(i:Nat):zaO b base i≠n:=fun e=>by
 have:=zcf e hn;omega
theorem znm{b:Bl}{base n:Int}{k:Nat}(h:zaL b base k=n)(hn:0≤n):ofB b base n=(4,(k:Int)):=by
 have q:=zfh h hn
 have hl:=zeW q.2.2.1 q.2.2.2.2.1
 rw[zlJ q.1 q.2.1 (by omega) (by unfold countN;omega)]
 unfold zej
 rw[zcq fun i _=>zjV hn (by omega) i]
 refine ziS (by omega) h fun i hi e=>?_
 have r:=zfh e hn
 have:=zmX r.2.2.1 r.2.2.2.2.1 (j:=k) (by omega)
 have h9:=q.2.2.2.2.2
 rw[show((k:Nat):Int).toNat=k from rfl]at h9
 omega
theorem ziF{b:Bl}{base n:Int}{k:Nat}(h:zaO b base k=n)(hn:0≤n):ofB b base n=(5,(k:Int)):=by
 have q:=zcf h hn
 rw[zlJ q.1 q.2.1 (by omega) (by unfold countN;omega)]
 unfold zej
 rw[zcq fun i _=>zjV hn (by omega) i,zcq fun i _=>zlw hn (by omega) i]
 refine ziS (by omega) h fun i hi e=>?_
 have:=zcf e hn
 omega
theorem zi5{b:Bl}{base n:Int}{k:Nat}(h:zaz b base k=n)(hn:0≤n):ofB b base n=(6,(k:Int)):=by
 have q:=zcf h hn
 rw[zlJ q.1 q.2.1 (by omega) (by unfold countN;omega)]
 unfold zej
 rw[zcq fun i _=>zjV hn (by omega) i,zcq fun i _=>zlw hn (by omega) i,zcq fun i _=>zuX hn (by omega) i]
 refine ziS (by omega) h fun i hi e=>?_
 have:=zcf e hn
 omega
theorem ztp{b:Bl}{base n:Int}(h3: ∀ k:Nat,k <b.sorts.length→zca b base k≠n)(h4: ∀ k:Nat,k <b.sorts.length→zaL b base k≠n)(h5: ∀ k:Nat,k <b.cons.length→zaO b base k≠n)
 (h6: ∀ k:Nat,k <b.sorts.length→zaz b base k≠n):ofB b base n=(0,0):=by
 unfold ofB
 split
 ·rfl
 ·split
  ·rfl
  ·split
   ·rfl
   ·split
    ·rfl
    ·unfold zej
     rw[zcq h3,zcq h4,zcq h5,zcq h6];rfl
end Go.Proofs.YtokfbblhjpfjkaaGreat
namespace Go.Proofs.YtokfbblhjpfjkaaGreat
open Go.Aw Go.RowKit
def zAk:List (Nat×List Nat):=[(0,[]),(1,[0]),(2,[]),(3,[2]),(4,[]),(5,[4]),(6,[4,5]),(7,[0,1,2,3,4,5,6]),(8,[0,1,2,3,4,5,6,7])]
attribute [local irreducible] WL AC WD WE MStep OkOp
def zt8(e es:Nat):List (List AV)→AV
 |[]=>.lst es [] true
 |r::l=>.own e es (r::l) true
abbrev znb(l:List Tm):AV:=zt8 25 3 (rsT l)
abbrev zvL(l:List Int):AV:=zt8 3 1 (rsI l)
theorem zjz(n:Nat)(hn:n≤1048576)(ihs: ∀ l:List Tm,sizes l≤n→FC Tryz.prog 39 [sT l] (znb l))(t:Tm)(h:t.size≤n+1):FC Tryz.prog 55 [aT t] (aT t):=by
 have hs:=t.size_eq
 have ih:=ihs t.kids (by omega)
 show FC Tryz.prog 55 [.agg [.int .i64 t.kind,.int .i64 t.num,.lst 3 (rsT t.kids) false]] (.agg [.int .i64 t.kind,.int .i64 t.num,.lst 3 (rsT t.kids) false])
 replace ih:FC Tryz.prog 39 [.lst 3 (rsT t.kids) false] (zt8 25 3 (rsT t.kids)):=ih
 generalize rsT t.kids=rs at ih⊢
 refine zo hty Tryz.func55 rfl rfl rfl fun w0=>?_
 cases rs with
 |nil=>
  repeat'(first|refine zD (id:=1) zAk rfl (by kernel_rfl) ?_|refine zu (.inl ⟨rfl,zar 0 rfl ih rfl rfl rfl⟩) ?_|refine zu (.inl ⟨rfl,zI hty rfl rfl⟩) ?_|refine zS ⟨by kernel_rfl,?_⟩|refine WL_p hty rfl rfl ?_|refine zh ?_|refine zi ?_|refine za ?_|refine zg ?_)
  refine zH rfl rfl ?_
  exact .agg (.cons (.refl _) (.cons (.refl _) (.cons (.nilF _ _ _) .nil)))
 |cons r l=>
  repeat'(first|refine zD (id:=1) zAk rfl (by kernel_rfl) ?_|refine zu (.inl ⟨rfl,zar 20 rfl ih rfl rfl rfl⟩) ?_|refine zu (.inl ⟨rfl,zI hty rfl rfl⟩) ?_|refine zS ⟨by kernel_rfl,?_⟩|refine WL_p hty rfl rfl ?_|refine zh ?_|refine zi ?_|refine za ?_|refine zg ?_)
  refine zbm (zaF 20 rfl) ?_
  refine zH rfl rfl ?_
  exact .refl _
theorem zh8(n:Nat)(hn:n≤1048576)(ih: ∀ t:Tm,t.size≤n→FC Tryz.prog 55 [aT t] (aT t))(l:List Tm)(h:sizes l≤n):FC Tryz.prog 39 [sT l] (znb l):=by
 have hlen:=zM l
 refine zo hty Tryz.func39 rfl rfl rfl fun w0=>?_
 repeat'(first|refine WL_p hty rfl rfl ?_|refine zh ?_|refine zi ?_|refine za ?_|refine zf ?_)
 refine zab (zcc 103 rfl) ?_
 refine zW l.length (fun _=>True) (fun i=>⟨envOf [(0,sT l),(3,grV 103 3 (rsT (l.take i))),(4,.int .i64 (i:Nat))],bkOf [(103,grB 25 3 (rsT (l.take i)))]⟩)
  (zfY ⟨zz rfl rfl,⟨_,rfl,.inl ⟨.nil _ _ _,rfl⟩⟩,zz rfl rfl,trivial⟩ ⟨zw rfl rfl,trivial⟩) trivial ?_
 intro i hi _
 repeat'(first|refine WL_p hty rfl rfl ?_|refine zi ?_|refine za ?_)
 refine zj rfl rfl rfl rfl (fun hc=>?_) (fun hc=>?_)
 ·have hlt:i <l.length:=by rw[zeb]at hc;omega
  obtain⟨a,ha,hmem⟩:=zA hlt
  have ra:=zac ha
  have has:=zK hmem
  repeat'(first|refine zv 0 rfl (ih a (by omega)) rfl rfl rfl ?_|refine WL_m rfl (zck hty 303 rfl rfl rfl rfl rfl rfl rfl (by simp only[zeb,List.length_take,List.length_cons,List.length_nil];omega) rfl rfl rfl) ?_|refine WL_p hty rfl rfl ?_|refine zh ?_|refine zi ?_|refine za ?_|refine zf ?_|refine zxg ?_|refine zd rfl ?_|refine WL_m rfl (zm hty rfl rfl rfl (by assumption) rfl) ?_)
  have hnx:rsT (l.take (i+1))=rsT (l.take i)++[cT a]:=by rw[List.take_add_one,ha,Option.toList_some,zas,rs1]
  refine⟨hlt,trivial,(zbf [(103,303)] rfl ⟨⟨_,rfl,.inl ⟨.refl _,rfl⟩⟩,⟨_,rfl,.inl ⟨zgT rfl ?_,zc7 rfl⟩⟩,⟨_,rfl,zO ?_ rfl⟩,trivial⟩ ⟨⟨⟨_,rfl,zdt ?_⟩,zbu⟩,trivial⟩)⟩
  ·exact hnx.symm
  ·exact congrArg (AV.int .i64) ((zy (by omega) (by omega)).trans (by omega))
  ·exact hnx.symm
 ·obtain rfl:i=l.length:=by rw[zeb]at hc;omega
  repeat'(first|refine WL_p hty rfl rfl ?_|refine zh ?_|refine zi ?_|refine za ?_|refine zbZ rfl ?_|refine zl ?_|refine zg ?_)
  rw[List.take_length]
  show zdS _ _ (zt8 25 3 (rsT l)) _ _
  generalize rsT l=rs
  cases rs
  ·exact zdC rfl rfl rfl
  ·exact zes rfl rfl rfl
theorem zow: ∀ n,n≤1048576→ ∀ l:List Tm,sizes l≤n→FC Tryz.prog 39 [sT l] (znb l):=by
 intro n
 induction n with
 |zero=>exact fun hn=>zh8 0 hn (fun a h=>absurd a.size_pos (by omega))
 |succ n ih=>exact fun hn=>zh8 (n+1) hn (zjz n (by omega) (ih (by omega)))
theorem zHk(l:List Tm)(h:sizes l≤1048576):FC Tryz.prog 39 [sT l] (znb l):=zow 1048576 (Nat.le_refl _) l h
end Go.Proofs.YtokfbblhjpfjkaaGreat
namespace Go.Proofs.YtokfbblhjpfjkaaGreat
open Go.Aw Go.RowKit
def zBO:List (Nat×List Nat):=[(0,[]),(1,[0]),(2,[]),(3,[0,1,2]),(4,[0,1,2,3]),(5,[]),(6,[]),(7,[6]),(8,[]),(9,[6,7,8]),(10,[5,6,7,8,9]),(11,[]),(12,[0,1,2,3,4,5,6,7,8,9,10,11]),(13,[0,1,2,3,4,5,6,7,8,9,10,11,12])]
attribute [local irreducible] WL AC WD WE MStep OkOp
end Go.Proofs.YtokfbblhjpfjkaaGreat
namespace Go.Proofs.YtokfbblhjpfjkaaGreat
open Go.Aw Go.RowKit
def zzR:List (Nat×List Nat):=[(0,[]),(1,[0]),(2,[0,1]),(3,[0,1,2]),(4,[0,1,2,3]),(5,[0,1,2,3,4]),(6,[0,1,2,3,4,5]),(7,[0,1,2,3,4,5,6]),(8,[0,1,2,3,4,5,6,7]),(9,[0,1,2,3,4,5,6,7,8]),(10,[0,1,2,3,4,5,6,7,8,9]),(11,[0,1,2,3,4,5,6,7,8,9,10]),(12,[0,1,2,3,4,5,6,7,8,9,10,11]),(13,[0,1,2,3,4,5,6,7,8,9,10]),(14,[0,1,2,3,4,5,6,7,8,9,10,13]),(15,[0,1,2,3,4,5,6,7,8,9,10,13,14]),(16,[0,1,2,3,4,5,6,7,8,9,10,13,14,15]),(17,[0,1,2,3,4,5,6,7,8,9,10,11,12,13,14,15,16]),(18,[0,1,2,3,4,5,6,7,8,9,10,11,12,13,14,15,16,17]),(19,[0,1,2,3,4,5,6,7,8,9,10,11,12,13,14,15,16,17,18]),(20,[0,1,2,3,4,5,6,7,8,9,10,11,12,13,14,15,16,17,18,19]),(21,[0,1,2,3,4,5,6,7,8,9,10,11,12,13,14,15,16,17,18,19,20]),(22,[0,1,2,3,4,5,6,7,8,9,10,11,12,13,14,15,16,17,18,19,20,21]),(23,[0,1,2,3,4,5,6,7,8,9,10,11,12,13,14,15,16,17,18,19,20,21,22]),(24,[0,1,2,3,4,5,6,7,8,9,10,11,12,13,14,15,16,17,18,19,20]),(25,[0,1,2,3,4,5,6,7,8,9,10,11,12,13,14,15,16,17,18,19,20,24]),(26,[0,1,2,3,4,5,6,7,8,9,10,11,12,13,14,15,16,17,18,19,20]),(27,[0,1,2,3,4,5,6,7,8,9,10,11,12,13,14,15,16,17,18,19,20,26]),(28,[0,1,2,3,4,5,6,7,8,9,10,11,12,13,14,15,16,17,18,19,20,24,25,26,27]),(29,[0,1,2,3,4,5,6,7,8,9,10,11,12,13,14,15,16,17,18,19,20,24,25,26,27,28]),(30,[0,1,2,3,4,5,6,7,8,9,10,11,12,13,14,15,16,17,18,19,20,24,25,26,27,28,29]),(31,[0,1,2,3,4,5,6,7,8,9,10,11,12,13,14,15,16,17,18,19,20,24,25,26,27,28,29,30]),(32,[0,1,2,3,4,5,6,7,8,9,10,11,12,13,14,15,16,17,18,19,20,21,22,23,24,25,26,27,28,29,30,31]),(33,[0,1,2,3,4,5,6,7,8,9,10,11,12,13,14,15,16,17,18,19,20,21,22,23,24,25,26,27,28,29,30,31,32])]
def zA5:List (Nat×List Nat):=[(0,[]),(1,[0]),(2,[]),(3,[0,1,2]),(4,[0,1,2,3]),(5,[]),(6,[]),(7,[6]),(8,[6,7]),(9,[5,6,7,8]),(10,[0,1,2,3,4,5,6,7,8,9]),(11,[0,1,2,3,4,5,6,7,8,9,10])]
attribute [local irreducible] WL AC WD WE MStep OkOp
end Go.Proofs.YtokfbblhjpfjkaaGreat
namespace Go.Proofs.YtokfbblhjpfjkaaGreat
open Go.Aw Go.RowKit
def zzI:List (Nat×List Nat):=[(0,[]),(1,[0]),(2,[]),(3,[2]),(4,[2,3]),(5,[2,3,4]),(6,[0,1,2,3,4,5]),(7,[0,1,2,3,4,5,6]),(8,[0,1,2,3,4,5,6,7]),(9,[0,1,2,3,4,5,6,7,8]),(10,[0,1,2,3,4,5,6,7,8,9]),(11,[0,1,2,3,4,5,6,7,8,9,10]),(12,[0,1,2,3,4,5,6,7,8,9,10,11]),(13,[0,1,2,3,4,5,6,7,8,9,10,11,12]),(14,[0,1,2,3,4,5,6,7,8,9,10,11,12,13]),(15,[0,1,2,3,4,5,6,7,8,9,10,11,12,13,14]),(16,[0,1,2,3,4,5,6,7,8,9,10,11,12,13,14,15]),(17,[0,1,2,3,4,5,6,7,8,9,10,11,12,13,14,15,16]),(18,[0,1,2,3,4,5,6,7,8,9,10,11,12,13,14]),(19,[0,1,2,3,4,5,6,7,8,9,10,11,12,13,14,18]),(20,[0,1,2,3,4,5,6,7,8,9,10,11,12,13,14]),(21,[0,1,2,3,4,5,6,7,8,9,10,11,12,13,14,20]),(22,[0,1,2,3,4,5,6,7,8,9,10,11,12,13,14,18,19,20,21]),(23,[0,1,2,3,4,5,6,7,8,9,10,11,12,13,14,18,19,20,21,22]),(24,[0,1,2,3,4,5,6,7,8,9,10,11,12,13,14,18,19,20,21,22,23]),(25,[0,1,2,3,4,5,6,7,8,9,10,11,12,13,14,18,19,20,21,22,23,24]),(26,[0,1,2,3,4,5,6,7,8,9,10,11,12,13,14,15,16,17,18,19,20,21,22,23,24,25]),(27,[0,1,2,3,4,5,6,7,8,9,10,11,12,13,14,15,16,17,18,19,20,21,22,23,24,25,26])]
def zA3:List (Nat×List Nat):=[(0,[]),(1,[]),(2,[1]),(3,[]),(4,[1,2,3]),(5,[1,2,3,4]),(6,[]),(7,[0,1,2,3,4,5,6]),(8,[0,1,2,3,4,5,6,7])]
def zAE:List (Nat×List Nat):=[(0,[]),(1,[0]),(2,[]),(3,[0,1,2]),(4,[0,1,2,3]),(5,[]),(6,[5]),(7,[5,6]),(8,[0,1,2,3,4,5,6,7]),(9,[0,1,2,3,4,5,6,7,8])]
attribute [local irreducible] WL AC WD WE MStep OkOp
end Go.Proofs.YtokfbblhjpfjkaaGreat
namespace Go.Proofs.YtokfbblhjpfjkaaGreat
open Go.Aw Go.RowKit
def zpV:List (Nat×List Nat):=[(0,[]),(1,[0]),(2,[0,1]),(3,[]),(4,[]),(5,[0,1,4]),(6,[0,1,3,4,5]),(7,[0,1,2,3,4,5,6]),(8,[]),(9,[8]),(10,[8,9]),(11,[0,1,2,3,4,5,6,7,8,9,10]),(12,[0,1,2,3,4,5,6,7,8,9,10,11])]
def zB9:List (Nat×List Nat):=[(0,[]),(1,[]),(2,[1]),(3,[0,1,2]),(4,[]),(5,[]),(6,[1,2,5]),(7,[1,2,4,5,6]),(8,[0,1,2,3,4,5,6,7]),(9,[]),(10,[0,1,2,3,4,5,6,7,8,9]),(11,[0,1,2,3,4,5,6,7,8,9,10])]
def zBT:List (Nat×List Nat):=[(0,[]),(1,[]),(2,[1]),(3,[0,1,2]),(4,[]),(5,[]),(6,[1,2,5]),(7,[1,2,4,5,6]),(8,[0,1,2,3,4,5,6,7]),(9,[]),(10,[9]),(11,[9,10]),(12,[0,1,2,3,4,5,6,7,8,9,10,11]),(13,[]),(14,[0,1,2,3,4,5,6,7,8,9,10,11,12,13]),(15,[0,1,2,3,4,5,6,7,8,9,10,11,12,13,14])]
def zB7:List (Nat×List Nat):=[(0,[]),(1,[]),(2,[1]),(3,[0,1,2]),(4,[]),(5,[]),(6,[1,2,4,5]),(7,[0,1,2,3,4,5,6]),(8,[0,1,2,3,4,5,6,7])]
attribute [local irreducible] WL AC WD WE MStep OkOp
theorem zec{n lo hi:Int}:inR n lo hi=true↔lo≤n∧n≤hi:=by simp[inR]
theorem zeV{n lo hi:Int}:inR n lo hi=false↔ ¬(lo≤n∧n≤hi):=by rw[←zec];simp
end Go.Proofs.YtokfbblhjpfjkaaGreat
namespace Go.Proofs.YtokfbblhjpfjkaaGreat
open Go.Aw Go.RowKit
attribute [local irreducible] WL AC WD WE MStep OkOp
def zvj(b:Bl)(base n:Int)(i:Nat):Prop:=zca b base i≠n∧zaL b base i≠n∧zaz b base i≠n
end Go.Proofs.YtokfbblhjpfjkaaGreat
namespace Go.Proofs.YtokfbblhjpfjkaaGreat
open Go.Aw Go.RowKit
def zBd:List (Nat×List Nat):=[(0,[]),(1,[]),(2,[1]),(3,[]),(4,[1,2,3]),(5,[1,2,3,4]),(6,[]),(7,[0,1,2,3,4,5,6]),(8,[0,1,2,3,4,5,6,7]),(9,[0,1,2,3,4,5,6,7,8]),(10,[0,1,2,3,4,5,6,7,8,9]),(11,[0,1,2,3,4,5,6,7,8,9,10]),(12,[0,1,2,3,4,5,6,7,8,9]),(13,[0,1,2,3,4,5,6,7,8,9,10,11,12]),(14,[0,1,2,3,4,5,6,7,8,9,10,11,12,13]),(15,[0,1,2,3,4,5,6,7,8,9,10,11,12,13,14]),(16,[0,1,2,3,4,5,6,7,8,9,10,11,12,13,14,15]),(17,[0,1,2,3,4,5,6,7,8,9,10,11,12,13,14,15,16]),(18,[0,1,2,3,4,5,6,7,8,9,10,11,12,13,14,15,16,17]),(19,[0,1,2,3,4,5,6,7,8,9,10,11,12,13,14,15,16]),(20,[0,1,2,3,4,5,6,7,8,9,10,11,12,13,14,15,16,17,18,19]),(21,[0,1,2,3,4,5,6,7,8,9,10,11,12,13,14,15,16,17,18,19,20]),(22,[0,1,2,3,4,5,6,7,8,9,10,11,12,13,14,15,16,17,18,19,20,21]),(23,[0,1,2,3,4,5,6,7,8,9,10,11,12,13,14,15,16,17,18,19,20,21,22]),(24,[0,1,2,3,4,5,6,7,8,9,10,11,12,13,14,15,16,17,18,19,20,21,22,23]),(25,[0,1,2,3,4,5,6,7,8,9,10,11,12,13,14,15,16,17,18,19,20,21,22,23,24]),(26,[0,1,2,3,4,5,6,7,8,9,10,11,12,13,14,15,16,17,18,19,20,21,22,23,24,25]),(27,[0,1,2,3,4,5,6,7,8,9,10,11,12,13,14,15,16,17,18,19,20,21,22,23,24,25,26]),(28,[0,1,2,3,4,5,6,7,8,9,10,11,12,13,14,15,16,17,18,19,20,21,22,23,24,25]),(29,[0,1,2,3,4,5,6,7,8,9,10,11,12,13,14,15,16,17,18,19,20,21,22,23,24,25,26,27,28]),(30,[0,1,2,3,4,5,6,7,8,9,10,11,12,13,14,15,16,17,18,19,20,21,22,23,24,25,26,27,28,29]),(31,[0,1,2,3,4,5,6,7,8,9,10,11,12,13,14,15,16,17,18,19,20,21,22,23,24,25,26,27,28,29,30]),(32,[0,1,2,3,4,5,6,7,8,9,10,11,12,13,14,15,16,17,18,19,20,21,22,23,24,25]),(33,[0,1,2,3,4,5,6,7,8,9,10,11,12,13,14,15,16,17,18,19,20,21,22,23,24,25,26,27,28,29,30,31,32]),(34,[0,1,2,3,4,5,6,7,8,9,10,11,12,13,14,15,16,17,18,19,20,21,22,23,24,25,26,27,28,29,30,31,32,33]),(35,[0,1,2,3,4,5,6,7,8,9,10,11,12,13,14,15,16,17,18,19,20,21,22,23,24,25,26,27,28,29,30,31,32,33,34]),(36,[0,1,2,3,4,5,6,7,8,9,10,11,12,13,14,15,16,17,18,19,20,21,22,23,24,25,26,27,28,29,30,31,32,33,34,35])]
def zBx:List (Nat×List Nat):=[(0,[]),(1,[]),(2,[1]),(3,[]),(4,[1,2,3]),(5,[1,2,3,4]),(6,[0,1,2,3,4,5]),(7,[0,1,2,3,4,5,6])]
attribute [local irreducible] WL AC WD WE MStep OkOp
def znB(k:Int)(a:Ar):Bool:=a.rc&&(decide (0 <a.dom.length)||decide (k≤a.sort))
theorem zqm(k:Int)(d:Bool)(l:List Ar):l.any (zeR k d)=(l.any (znB k)||(d&&l.any (·.rc))):=by
 induction l with
 |nil=>simp
 |cons a l ih=>
  simp only[List.any_cons,ih,zeR,znB]
  cases a.rc <;>cases d <;>simp[Bool.or_assoc]
  all_goals(cases decide (0 <a.dom.length) <;>simp)
theorem zlD{α:Type}(p:α→Bool)(l:List α):l.all p= !(l.any fun k=> !p k):=by
 induction l with
 |nil=>rfl
 |cons a l ih=>simp only[List.all_cons,List.any_cons,ih,Bool.not_or,Bool.not_not]
end Go.Proofs.YtokfbblhjpfjkaaGreat
namespace Go.Proofs.YtokfbblhjpfjkaaGreat
open Go.Aw Go.RowKit
def zBR:List (Nat×List Nat):=[(0,[]),(1,[]),(2,[0,1]),(3,[0,1,2]),(4,[]),(5,[]),(6,[4,5]),(7,[4,5,6]),(8,[0,1,2,3,4,5,6,7]),(9,[0,1,2,3,4,5,6,7,8])]
def zBM:List (Nat×List Nat):=[(0,[]),(1,[0]),(2,[]),(3,[0,1,2]),(4,[0,1,2,3]),(5,[]),(6,[5]),(7,[]),(8,[5,6,7]),(9,[5,6,7,8]),(10,[]),(11,[]),(12,[0,1,2,3,4,10,11]),(13,[0,1,2,3,4,5,6,7,8,9,10,11,12])]
def zBi:List (Nat×List Nat):=[(0,[]),(1,[0]),(2,[]),(3,[0,1,2]),(4,[0,1,2,3]),(5,[]),(6,[5]),(7,[]),(8,[5,6,7]),(9,[5,6,7,8]),(10,[0,1,2,3,4,5,6,7,8,9]),(11,[0,1,2,3,4,5,6,7,8,9,10])]
attribute [local irreducible] WL AC WD WE MStep OkOp
attribute [local irreducible] zdA
def zBl:Bl:=⟨[],[],0⟩
theorem Sr.ext{a b:Sr}(h1:a.idx=b.idx)(h2:a.level=b.level)(h3:a.dec=b.dec)(h4:a.decT=b.decT):a=b:=by cases a;cases b;simp_all
end Go.Proofs.YtokfbblhjpfjkaaGreat
namespace Go.Proofs.YtokfbblhjpfjkaaGreat
open Go.Aw Go.RowKit
def zBN:List (Nat×List Nat):=[(0,[]),(1,[]),(2,[]),(3,[2]),(4,[2,3]),(5,[2,3,4]),(6,[2,3,4,5]),(7,[2,3,4,5,6]),(8,[1,2,3,4,5,6,7]),(9,[0,1,2,3,4,5,6,7,8]),(10,[0,1,2,3,4,5,6,7,8,9])]
def zzP:List (Nat×List Nat):=[(0,[101000]),(1,[]),(2,[]),(3,[2]),(4,[2,3]),(5,[2,3,4]),(6,[2,3,4,5]),(7,[2,3,4,5,6]),(8,[1,2,3,4,5,6,7]),(9,[0,1,2,3,4,5,6,7,8]),(10,[0,1,2,3,4,5,6,7,8,9])]
attribute [local irreducible] WL AC WD WE MStep OkOp
theorem zmw: ∀ (n:Nat) (t:Tm) (acc:List Tm),spN n t acc=((spN n t []).1,acc++(spN n t []).2)
 |0,t,acc=>by simp[spN]
 |n+1,t,acc=>by
  by_cases h2:zbC t 6=true
  ·obtain⟨f,a,hk⟩:=zb0 h2
   rw[zcn h2 hk,zcn h2 hk,zmw n f (acc++[a]),zmw n f ([]++[a])]
   simp
  ·have h2:zbC t 6=false:=by simpa using h2
   rw[zc5 h2,zc5 h2];simp
theorem zf3{t f a:Tm}(h:zbC t 6=true)(hk:t.kids=[f,a]):zF t=((zF f).1,(zF f).2++[a]):=by
 have hs:=t.size_eq
 rw[hk]at hs
 simp only[sizes]at hs
 have hp:=a.size_pos
 unfold zF
 rw[show t.size=(t.size-1)+1 by omega,zcn h hk,zmw]
 rw[zjU (t.size-1) f.size f [] (by omega) (Nat.le_refl _)]
 simp
theorem zhF{t:Tm}(h:zbC t 6=false):zF t=(t,[]):=by
 unfold zF
 rw[zc5 h];rfl
structure Ql where
 b:Bl
 base:Int
 vars:List Int
 args:List Ar
abbrev cQ(p:Ql):List AV:=[.lst 6 (zY p.b.sorts) false,.lst 6 (rsC p.b.cons) false,.int .i64 p.b.elim,.int .i64 p.base,.lst 1 (rsI p.vars) false,.lst 7 (zX p.args) false]
abbrev aQ(p:Ql):AV:=.agg (cQ p)
def zDb:Nat→List Ar→List Int
 |_,[]=>[]
 |i,a::l=>(if a.rc=true then(i:Int)else -1)::zDb (i+1) l
def zaY(l:List Ar)(m:Nat):List Int:=zDb 0 l++List.replicate m (-1)
def plQ(b:Bl)(base:Int)(l:List Ar)(m:Nat):Ql:=⟨b,base,zaY l m,l⟩
theorem zcg: ∀ (l:List Ar) (i:Nat),(zDb i l).length=l.length
 |[],_=>rfl
 |a::l,i=>by simp[zDb,zcg l]
theorem zbV(l:List Ar)(m:Nat):(zaY l m).length=l.length+m:=by simp[zaY,zcg]
theorem zlu: ∀ (l:List Ar) (i j:Nat),(zDb i l)[j]? =(l[j]?).map fun a=>if a.rc=true then((i+j:Nat):Int)else -1
 |[],_,_=>by simp[zDb]
 |a::l,i,0=>by simp[zDb]
 |a::l,i,j+1=>by
  simp only[zDb,List.getElem?_cons_succ,zlu l (i+1) j]
  rw[show i+1+j=i+(j+1) by omega]
theorem zj2: ∀ (l:List Ar) (i:Nat) (a:Ar),zDb i (l++[a])=zDb i l++[if a.rc=true then((i+l.length:Nat):Int)else -1]
 |[],_,_=>by simp[zDb]
 |x::l,i,a=>by
  simp only[List.cons_append,zDb,zj2 l (i+1) a,List.length_cons]
  rw[show i+1+l.length=i+(l.length+1) by omega]
def zbX(vars:List Int)(n:Int):Int:=if(vars.length:Int)≤n then -1 else vars.getD (vars.length-1-n.toNat) 0
end Go.Proofs.YtokfbblhjpfjkaaGreat
namespace Go.Proofs.YtokfbblhjpfjkaaGreat
open Go.Aw Go.RowKit
attribute [local irreducible] WL AC WD WE MStep OkOp
theorem zhb(l:List Int)(x:Int):rsI l++[[.int .i64 x]]=rsI (l++[x]):=by
 induction l with
 |nil=>rfl
 |cons a l ih=>simp only[rsI,List.map_cons,List.cons_append,List.map_append,List.map_nil]
theorem zos(l:List Ar)(m n:Nat):zaY l (m+n)=zaY l m++List.replicate n (-1):=by
 unfold zaY;rw[List.append_assoc,List.replicate_append_replicate]
theorem zfk(n:Nat):List.replicate (n+1) (-1:Int)=List.replicate n (-1)++[-1]:=List.replicate_succ' ..
end Go.Proofs.YtokfbblhjpfjkaaGreat
