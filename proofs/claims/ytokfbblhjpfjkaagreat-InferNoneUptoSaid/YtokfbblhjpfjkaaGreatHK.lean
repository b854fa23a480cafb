/- Which constant of a block a number is, in plain words.; Terms and numbers are to -/
import Derived.Test.YtokfbblhjpfjkaaGreatHG
import Derived.Test.YtokfbblhjpfjkaaGreatHB
import Derived.Test.YtokfbblhjpfjkaaGreatHC
import Derived.Test.YtokfbblhjpfjkaaGreatHH
set_option linter.unusedSimpArgs false
set_option linter.unusedVariables false
namespace Go.Proofs.YtokfbblhjpfjkaaGreat
open Go.Aw Go.RowKit
theorem zcf{base a k m n:Int}(h:zb3 base a k m=n)(hn:0≤n):0≤base∧base≤65535∧0≤k∧k <m∧n=base+a+k:=by
 unfold zb3 at h
 repeat'(split at h)
 all_goals omega
theorem zfh{b:Bl}{base k n:Int}(h:zaL b base k=n)(hn:0≤n):0≤base∧base≤65535∧0≤k∧k <b.sorts.length∧decS b k=true∧n=base+b.sorts.length+zaX (b.sorts.take k.toNat):=by
 unfold zaL at h
 split at h
 ·omega
 ·split at h
  ·omega
  ·split at h
   ·rename_i h1 h2 h3
    have:=zcf h hn
    exact⟨this.1,this.2.1,by omega,by omega,h3,this.2.2.2.2⟩
   ·omega
theorem zpI(l:List Sr){i j:Nat}(h:i≤j):zaX (l.take i)≤zaX (l.take j):=by
 have:l.take i=(l.take j).take i:=by rw[List.take_take,Nat.min_eq_left h]
 rw[this]
 exact(List.take_sublist i _).countP_le
theorem zlh(l:List Sr)(i:Nat):zaX (l.take i)≤zaX l:=(List.take_sublist i _).countP_le
theorem zmX{b:Bl}{k:Int}(h0:0≤k)(h:decS b k=true){j:Nat}(hj:k.toNat <j):zaX (b.sorts.take k.toNat) <zaX (b.sorts.take j):=by
 unfold decS at h
 cases hs:b.sorts[k.toNat]? with
 |none=>rw[hs]at h;cases h
 |some s=>
  rw[hs]at h
  have h1:=zdu hs
  rw[if_pos h]at h1
  have:=zpI b.sorts (show k.toNat+1≤j by omega)
  omega
theorem zeW{b:Bl}{k:Int}(h0:0≤k)(h:decS b k=true):zaX (b.sorts.take k.toNat) <zaX b.sorts:=by
 have:=zmX h0 h (j:=k.toNat+1) (by omega)
 exact Nat.lt_of_lt_of_le this (zlh _ _)
theorem zk0{p:Nat→Bool}{m:Nat}(h: ∀ i,i <m→p i=false):(List.range m).any p=false:=by
 rw[List.any_eq_false]
 intro x hx
 rw[h x (List.mem_range.1 hx)];exact Bool.false_ne_true
theorem ziS{kd:Int}{m:Nat}{f:Int→Int}{l:List (Int×Nat×(Int→Int))}{n:Int}{k:Nat}(hk:k <m)(hf:f k=n)(hu: ∀ i:Nat,i <k→f i≠n):ofL ((kd,m,f)::l) n=(kd,(k:Int)):=by
 have hid:idxF (fun i:Nat=>decide (f i=n)) (List.range m)=(k:Nat):=by
  refine zdi (a:=k) (by simp[hf]) ?_ (zhB hk)
  rw[List.take_range,Nat.min_eq_left (Nat.le_of_lt hk)]
  exact zk0 fun i hi=>decide_eq_false (hu i hi)
 simp only[ofL,hid]
 rw[if_pos (Int.natCast_nonneg _)]
theorem zcq{kd:Int}{m:Nat}{f:Int→Int}{l:List (Int×Nat×(Int→Int))}{n:Int}(hu: ∀ i:Nat,i <m→f i≠n):ofL ((kd,m,f)::l) n=ofL l n:=by
 have hid:idxF (fun i:Nat=>decide (f i=n)) (List.range m)= -1:=zcG (zk0 fun i hi=>decide_eq_false (hu i hi))
 simp only[ofL,hid]
 rw[if_neg (by decide)]
theorem zlJ{b:Bl}{base n:Int}(h0:0≤base)(h1:base≤65535)(h2:base≤n)(h3:n-base <countN b):ofB b base n=ofL (zej b base) n:=by
 unfold ofB
 rw[if_neg (by omega),if_neg (by omega),if_neg (by omega),if_neg (by omega)]
theorem zoN{b:Bl}{base n:Int}{k:Nat}(h:zca b base k=n)(hn:0≤n):ofB b base n=(3,(k:Int)):=by
 have q:=zcf h hn
 rw[zlJ q.1 q.2.1 (by omega) (by unfold countN;omega)]
 refine ziS (by omega) h fun i hi e=>?_
 have:=zcf e hn
 omega
theorem zjV{b:Bl}{base n:Int}(hn:0≤n)(h:base+b.sorts.length≤n)(i:Nat):zca b base i≠n:=fun e=>by
 have:=zcf e hn;omega
theorem zlw{b:Bl}{base n:Int}(hn:0≤n)(h:base+b.sorts.length+zaX b.sorts≤n)(i:Nat):zaL b base i≠n:=fun e=>by
 have h1:=zfh e hn
 have:=zeW h1.2.2.1 h1.2.2.2.2.1
 omega
theorem zuX{b:Bl}{base n:Int}(hn:0≤n)(h:base+b.sorts.length+zaX b.sorts+b.cons.length≤n)(i:Nat):zaO b base i≠n:=fun e=>by
 have:=zcf e hn;omega
theorem znm{b:Bl}{base n:Int}{k:Nat}(h:zaL b base k=n)(hn:0≤n):ofB b base n=(4,(k:Int)):=by
 have q:=zfh h hn
 have hl:=zeW q.2.2.1 q.2.2.2.2.1
 rw[zlJ q.1 q.2.1 (by omega) (by unfold countN;omega)]
 unfold zej
 rw[zcq fun i _=>zjV hn (by omega) i]
 refine ziS (by omega) h fun i hi e=>?_
 have r:=zfh e hn
 have:=zmX r.2.2.1 r.2.2.2.2.1 (j:=k) (by omega)
 have h9:=q.2.2.2.2.2
 rw[show((k:Nat):Int).toNat=k from rfl]at h9
 omega
theorem ziF{b:Bl}{base n:Int}{k:Nat}(h:zaO b base k=n)(hn:0≤n):ofB b base n=(5,(k:Int)):=by
 have q:=zcf h hn
 rw[zlJ q.1 q.2.1 (by omega) (by unfold countN;omega)]
 unfold zej
 rw[zcq fun i _=>zjV hn (by omega) i,zcq fun i _=>zlw hn (by omega) i]
 refine ziS (by omega) h fun i hi e=>?_
 have:=zcf e hn
 omega
theorem zi5{b:Bl}{base n:Int}{k:Nat}(h:zaz b base k=n)(hn:0≤n):ofB b base n=(6,(k:Int)):=by
 have q:=zcf h hn
 rw[zlJ q.1 q.2.1 (by omega) (by unfold countN;omega)]
 unfold zej
 rw[zcq fun i _=>zjV hn (by omega) i,zcq fun i _=>zlw hn (by omega) i,zcq fun i _=>zuX hn (by omega) i]
 refine ziS (by omega) h fun i hi e=>?_
 have:=zcf e hn
 omega
theorem ztp{b:Bl}{base n:Int}(h3: ∀ k:Nat,k <b.sorts.length→zca b base k≠n)(h4: ∀ k:Nat,k <b.sorts.length→zaL b base k≠n)(h5: ∀ k:Nat,k <b.cons.length→zaO b base k≠n)
 (h6: ∀ k:Nat,k <b.sorts.length→zaz b base k≠n):ofB b base n=(0,0):=by
 unfold ofB
 split
 ·rfl
 ·split
  ·rfl
  ·split
   ·rfl
   ·split
    ·rfl
    ·unfold zej
     rw[zcq h3,zcq h4,zcq h5,zcq h6];rfl
theorem ztB{b:Bl}{base n:Int}(h:n <0):ofB b base n=(0,0):=by
 unfold ofB
 split
 ·rfl
 ·split
  ·rfl
  ·rw[if_pos (by omega)]
end Go.Proofs.YtokfbblhjpfjkaaGreat
namespace Go.Proofs.YtokfbblhjpfjkaaGreat
open Go.Aw Go.RowKit
def zAk:List (Nat×List Nat):=[(0,[]),(1,[0]),(2,[]),(3,[2]),(4,[]),(5,[4]),(6,[4,5]),(7,[0,1,2,3,4,5,6]),(8,[0,1,2,3,4,5,6,7])]
attribute [local irreducible] WL AC WD WE MStep OkOp
theorem zbF{P:Program}{w0:B0}{nt:Nat}{id:Nat}{ops:Array Oper}{b:Bool}{s:AS}{C:Exit→AS→Prop}(h:AC P w0 nt (.region id ops b) s C):AC P w0 nt (.region id ops b) s C:=h
def zt8(e es:Nat):List (List AV)→AV
 |[]=>.lst es [] true
 |r::l=>.own e es (r::l) true
abbrev znb(l:List Tm):AV:=zt8 25 3 (rsT l)
abbrev zvL(l:List Int):AV:=zt8 3 1 (rsI l)
theorem zkB(l:List Int)(full:Bool)(h:l.length≤4194304):FC Tryz.prog 212 [.lst 1 (rsI l) full] (zvL l):=by
 refine zo hty Tryz.func212 rfl rfl rfl fun w0=>?_
 cases l with
 |nil=>
  repeat'(first|refine WL_m rfl (zlC hty rfl rfl rfl rfl rfl rfl rfl) ?_|refine WL_p hty rfl rfl ?_|refine zh ?_|refine zi ?_|refine za ?_|refine zg ?_)
  exact zH rfl rfl (.nil _ _ _)
 |cons x l=>
  repeat'(first|refine WL_m rfl (ze7 hty 20 rfl rfl rfl rfl rfl rfl rfl (List.cons_ne_nil _ _) (by rw[zap];simp only[List.length_cons,List.length_nil]at*;omega) rfl rfl rfl) ?_|refine WL_p hty rfl rfl ?_|refine zh ?_|refine zi ?_|refine za ?_|refine zg ?_)
  exact zes rfl rfl rfl
theorem zjz(n:Nat)(hn:n≤1048576)(ihs: ∀ l:List Tm,sizes l≤n→FC Tryz.prog 39 [sT l] (znb l))(t:Tm)(h:t.size≤n+1):FC Tryz.prog 55 [aT t] (aT t):=by
 have hs:=t.size_eq
 have ih:=ihs t.kids (by omega)
 show FC Tryz.prog 55 [.agg [.int .i64 t.kind,.int .i64 t.num,.lst 3 (rsT t.kids) false]] (.agg [.int .i64 t.kind,.int .i64 t.num,.lst 3 (rsT t.kids) false])
 replace ih:FC Tryz.prog 39 [.lst 3 (rsT t.kids) false] (zt8 25 3 (rsT t.kids)):=ih
 generalize rsT t.kids=rs at ih⊢
 refine zo hty Tryz.func55 rfl rfl rfl fun w0=>?_
 cases rs with
 |nil=>
  repeat'(first|refine zD (id:=1) zAk rfl (by kernel_rfl) ?_|refine zu (.inl ⟨rfl,zar 0 rfl ih rfl rfl rfl⟩) ?_|refine zu (.inl ⟨rfl,zI hty rfl rfl⟩) ?_|refine zS ⟨by kernel_rfl,?_⟩|refine WL_p hty rfl rfl ?_|refine zh ?_|refine zi ?_|refine za ?_|refine zg ?_)
  refine zH rfl rfl ?_
  exact .agg (.cons (.refl _) (.cons (.refl _) (.cons (.nilF _ _ _) .nil)))
 |cons r l=>
  repeat'(first|refine zD (id:=1) zAk rfl (by kernel_rfl) ?_|refine zu (.inl ⟨rfl,zar 20 rfl ih rfl rfl rfl⟩) ?_|refine zu (.inl ⟨rfl,zI hty rfl rfl⟩) ?_|refine zS ⟨by kernel_rfl,?_⟩|refine WL_p hty rfl rfl ?_|refine zh ?_|refine zi ?_|refine za ?_|refine zg ?_)
  refine zbm (zaF 20 rfl) ?_
  refine zH rfl rfl ?_
  exact .refl _
theorem zh8(n:Nat)(hn:n≤1048576)(ih: ∀ t:Tm,t.size≤n→FC Tryz.prog 55 [aT t] (aT t))(l:List Tm)(h:sizes l≤n):FC Tryz.prog 39 [sT l] (znb l):=by
 have hlen:=zM l
 refine zo hty Tryz.func39 rfl rfl rfl fun w0=>?_
 repeat'(first|refine WL_p hty rfl rfl ?_|refine zh ?_|refine zi ?_|refine za ?_|refine zf ?_)
 refine zab (zcc 103 rfl) ?_
 refine zW l.length (fun _=>True) (fun i=>⟨envOf [(0,sT l),(3,grV 103 3 (rsT (l.take i))),(4,.int .i64 (i:Nat))],bkOf [(103,grB 25 3 (rsT (l.take i)))]⟩)
  (zfY ⟨zz rfl rfl,⟨_,rfl,.inl ⟨.nil _ _ _,rfl⟩⟩,zz rfl rfl,trivial⟩ ⟨zw rfl rfl,trivial⟩) trivial ?_
 intro i hi _
 repeat'(first|refine WL_p hty rfl rfl ?_|refine zi ?_|refine za ?_)
 refine zj rfl rfl rfl rfl (fun hc=>?_) (fun hc=>?_)
 ·have hlt:i <l.length:=by rw[zeb]at hc;omega
  obtain⟨a,ha,hmem⟩:=zA hlt
  have ra:=zac ha
  have has:=zK hmem
  repeat'(first|refine zv 0 rfl (ih a (by omega)) rfl rfl rfl ?_|refine WL_m rfl (zck hty 303 rfl rfl rfl rfl rfl rfl rfl (by simp only[zeb,List.length_take,List.length_cons,List.length_nil];omega) rfl rfl rfl) ?_|refine WL_p hty rfl rfl ?_|refine zh ?_|refine zi ?_|refine za ?_|refine zf ?_|refine zxg ?_|refine zd rfl ?_|refine WL_m rfl (zm hty rfl rfl rfl (by assumption) rfl) ?_)
  have hnx:rsT (l.take (i+1))=rsT (l.take i)++[cT a]:=by rw[List.take_add_one,ha,Option.toList_some,zas,rs1]
  refine⟨hlt,trivial,(zbf [(103,303)] rfl ⟨⟨_,rfl,.inl ⟨.refl _,rfl⟩⟩,⟨_,rfl,.inl ⟨zgT rfl ?_,zc7 rfl⟩⟩,⟨_,rfl,zO ?_ rfl⟩,trivial⟩ ⟨⟨⟨_,rfl,zdt ?_⟩,zbu⟩,trivial⟩)⟩
  ·exact hnx.symm
  ·exact congrArg (AV.int .i64) ((zy (by omega) (by omega)).trans (by omega))
  ·exact hnx.symm
 ·obtain rfl:i=l.length:=by rw[zeb]at hc;omega
  repeat'(first|refine WL_p hty rfl rfl ?_|refine zh ?_|refine zi ?_|refine za ?_|refine zbZ rfl ?_|refine zl ?_|refine zg ?_)
  rw[List.take_length]
  show zdS _ _ (zt8 25 3 (rsT l)) _ _
  generalize rsT l=rs
  cases rs
  ·exact zdC rfl rfl rfl
  ·exact zes rfl rfl rfl
theorem zow: ∀ n,n≤1048576→ ∀ l:List Tm,sizes l≤n→FC Tryz.prog 39 [sT l] (znb l):=by
 intro n
 induction n with
 |zero=>exact fun hn=>zh8 0 hn (fun a h=>absurd a.size_pos (by omega))
 |succ n ih=>exact fun hn=>zh8 (n+1) hn (zjz n (by omega) (ih (by omega)))
theorem zjM(t:Tm)(h:t.size≤1048576):FC Tryz.prog 55 [aT t] (aT t):=zjz 1048575 (by omega) (zow 1048575 (by omega)) t h
end Go.Proofs.YtokfbblhjpfjkaaGreat
namespace Go.Proofs.YtokfbblhjpfjkaaGreat
open Go.Aw Go.RowKit
def zBO:List (Nat×List Nat):=[(0,[]),(1,[0]),(2,[]),(3,[0,1,2]),(4,[0,1,2,3]),(5,[]),(6,[]),(7,[6]),(8,[]),(9,[6,7,8]),(10,[5,6,7,8,9]),(11,[]),(12,[0,1,2,3,4,5,6,7,8,9,10,11]),(13,[0,1,2,3,4,5,6,7,8,9,10,11,12])]
attribute [local irreducible] WL AC WD WE MStep OkOp
theorem zgu(k i:Int):FC Tryz.prog 103 [.int .i64 k,.int .i64 i] (.int .i64 (zU k i)):=by
 refine zo hty Tryz.func103 rfl rfl rfl fun w0=>?_
 repeat'(first|refine WL_p hty rfl rfl ?_|refine zh ?_|refine zi ?_|refine za ?_|refine zxg ?_|refine zd rfl ?_|refine zbZ rfl ?_|refine zg ?_|refine zx rfl rfl ?_|refine zq rfl rfl rfl ?_|refine zot rfl rfl rfl ?_|refine zr rfl rfl rfl ?_|refine zj rfl rfl rfl rfl (fun _=>?_) (fun _=>?_))
 all_goals refine zaQ rfl ?_
 all_goals simp only[zU];simp_all
set_option maxHeartbeats 4000000 in
theorem zp7: ∀ n,n≤1048576→ ∀ (t:Tm) (v c:Int),t.size≤n→0≤v→v+t.depth≤4194304→FC Tryz.prog 126 [aT t,.int .i64 v,.int .i64 c] (.bool (zbx t v c)):=by
 intro n
 induction n with
 |zero=>intro hn t v c ht;have:=t.size_pos;omega
 |succ n ih=>
 intro hn t v c ht hv0 hv
 have ih:=ih (by omega)
 have hs:=t.size_eq
 have hdp:=t.depth_eq
 have hlen:=zM t.kids
 have hfe:=zkm t v c
 refine zo hty Tryz.func126 rfl rfl rfl fun w0=>?_
 repeat'(first|refine WL_p hty rfl rfl ?_|refine zh ?_|refine zi ?_|refine za ?_|refine zf ?_|refine zxg ?_|refine zd rfl ?_|refine zbZ rfl ?_|refine zg ?_|refine zb rfl ?_|refine zj rfl rfl rfl rfl (fun _=>?_) (fun _=>?_))
 ·rw[hfe,if_pos (by assumption)];simp[*]
 ·rw[hfe,if_pos (by assumption)];simp[*]
 ·rw[hfe,if_neg (by assumption),if_pos (by assumption)];simp[*]
 ·rw[hfe,if_neg (by assumption),if_pos (by assumption)];simp[*]
 ·rw[hfe,if_neg (by assumption),if_neg (by assumption),if_pos (by assumption)];simp[*]
 ·rw[hfe,if_neg (by assumption),if_neg (by assumption),if_pos (by assumption)];simp[*]
 rw[if_neg (by assumption),if_neg (by assumption),if_neg (by assumption)]at hfe
 refine zW t.kids.length (fun j=>zaD t.kind 0 (t.kids.take j) v c=true) (fun j=>⟨envOf [(1,.int .i64 v),(2,.int .i64 c),(3,.ptr 3 0),(7,.int .i64 (j:Nat))],bkOf [(3,.box (cT t))]⟩) (zfY ⟨zz rfl rfl,zz rfl rfl,zz rfl rfl,zz rfl rfl,trivial⟩ ⟨zw rfl rfl,trivial⟩) rfl ?_
 intro j hj hI
 repeat'(first|refine WL_p hty rfl rfl ?_|refine zi ?_|refine za ?_)
 refine zj rfl rfl rfl rfl (fun hc=>?_) (fun hc=>?_)
 ·have hlt:j <t.kids.length:=by rw[zeb]at hc;omega
  obtain⟨k,hk,hmem⟩:=zA hlt
  have hks:=zK hmem
  have hkd:=zaU hmem
  have rk:=zac hk
  have hbi:0≤zU t.kind (j:Nat)∧zU t.kind (j:Nat)≤1:=by unfold zU;split <;>omega
  have hwr:IntKind.i64.wrap (v+zU t.kind (j:Nat))=v+zU t.kind (j:Nat):=zy (n:=v+zU t.kind (j:Nat)) (by omega) (by omega)
  have hkc:=ih k (v+zU t.kind (j:Nat)) c (by omega) (by omega) (by omega)
  rw[←hwr]at hkc
  have hsp:zaD t.kind 0 t.kids v c=(zaD t.kind 0 (t.kids.take j) v c&&(zbx k (v+zU t.kind (j:Nat)) c&&zaD t.kind (0+(j:Nat)+1) (t.kids.drop (j+1)) v c)):=by
   conv=>lhs;rw[←List.take_append_drop j t.kids,zcu,List.drop_eq_getElem_cons hlt,zaD]
   have h1:(t.kids.take j).length=j:=by rw[List.length_take];omega
   have h2:t.kids[j]=k:=by rw[List.getElem?_eq_getElem hlt]at hk;exact Option.some.inj hk
   rw[h1,h2,Int.zero_add]
  have hst:zaD t.kind 0 (t.kids.take (j+1)) v c=(zaD t.kind 0 (t.kids.take j) v c&&zbx k (v+zU t.kind (j:Nat)) c):=by
   have h1:(t.kids.take j).length=j:=by rw[List.length_take];omega
   rw[List.take_add_one,hk,Option.toList_some,zcu,h1]
   simp[zaD]
  repeat'(first|refine zD (id:=11) zBO rfl (by kernel_rfl) ?_|refine zad 0 rfl (zgu _ _) rfl rfl rfl ?_|refine zan rfl hkc rfl (fun _=>?_) (fun _=>?_)|refine zu (.inl ⟨rfl,zI hty rfl rfl⟩) ?_|refine zu (.inl ⟨rfl,zm hty rfl rfl rfl (by assumption) rfl⟩) ?_|refine zS ⟨by kernel_rfl,?_⟩|refine WL_p hty rfl rfl ?_|refine zh ?_|refine zi ?_|refine za ?_|refine zf ?_|refine zxg ?_|refine zd rfl ?_|refine zbZ rfl ?_|refine zg ?_|refine zb rfl ?_)
  all_goals(rename_i hb;rw[hwr]at hb)
  ·refine⟨hlt,by rw[hst,hI,hb];rfl,(zfY ⟨zz rfl rfl,zz rfl rfl,zz rfl rfl,⟨_,rfl,zO ?_ rfl⟩,trivial⟩ ⟨zw rfl rfl,trivial⟩)⟩
   exact congrArg (AV.int .i64) ((zy (by omega) (by omega)).trans (by omega))
  ·rw[hfe,hsp,hb];simp
 ·obtain rfl:j=t.kids.length:=by rw[zeb]at hc;omega
  rw[List.take_length]at hI
  repeat'(first|refine WL_p hty rfl rfl ?_|refine zh ?_|refine zi ?_|refine za ?_|refine zbZ rfl ?_|refine zl ?_|refine zg ?_|refine zb rfl ?_)
  rw[hfe,hI]
theorem zgz(t:Tm)(v c:Int)(h:t.size≤1048576):FC Tryz.prog 83 [aT t,.int .i64 v,.int .i64 c] (.bool (zcY t v c)):=by
 have hd:=t.depth_le
 refine zo hty Tryz.func83 rfl rfl rfl fun w0=>?_
 repeat'(first|refine zv 0 rfl (zo2 t h) rfl rfl rfl ?_|refine WL_m rfl (znM rfl rfl rfl) ?_|refine zL rfl (zp7 1048576 (by omega) t _ c h (by split <;>omega) (by split <;>omega)) rfl (fun _=>?_) (fun _=>?_)|refine WL_p hty rfl rfl ?_|refine zh ?_|refine zi ?_|refine za ?_|refine zg ?_|refine zx rfl rfl ?_|refine zq rfl rfl rfl ?_|refine zb rfl ?_|refine zj rfl rfl rfl rfl (fun _=>?_) (fun _=>?_))
 all_goals simp[zcY, *]
end Go.Proofs.YtokfbblhjpfjkaaGreat
namespace Go.Proofs.YtokfbblhjpfjkaaGreat
open Go.Aw Go.RowKit
def zzR:List (Nat×List Nat):=[(0,[]),(1,[0]),(2,[0,1]),(3,[0,1,2]),(4,[0,1,2,3]),(5,[0,1,2,3,4]),(6,[0,1,2,3,4,5]),(7,[0,1,2,3,4,5,6]),(8,[0,1,2,3,4,5,6,7]),(9,[0,1,2,3,4,5,6,7,8]),(10,[0,1,2,3,4,5,6,7,8,9]),(11,[0,1,2,3,4,5,6,7,8,9,10]),(12,[0,1,2,3,4,5,6,7,8,9,10,11]),(13,[0,1,2,3,4,5,6,7,8,9,10]),(14,[0,1,2,3,4,5,6,7,8,9,10,13]),(15,[0,1,2,3,4,5,6,7,8,9,10,13,14]),(16,[0,1,2,3,4,5,6,7,8,9,10,13,14,15]),(17,[0,1,2,3,4,5,6,7,8,9,10,11,12,13,14,15,16]),(18,[0,1,2,3,4,5,6,7,8,9,10,11,12,13,14,15,16,17]),(19,[0,1,2,3,4,5,6,7,8,9,10,11,12,13,14,15,16,17,18]),(20,[0,1,2,3,4,5,6,7,8,9,10,11,12,13,14,15,16,17,18,19]),(21,[0,1,2,3,4,5,6,7,8,9,10,11,12,13,14,15,16,17,18,19,20]),(22,[0,1,2,3,4,5,6,7,8,9,10,11,12,13,14,15,16,17,18,19,20,21]),(23,[0,1,2,3,4,5,6,7,8,9,10,11,12,13,14,15,16,17,18,19,20,21,22]),(24,[0,1,2,3,4,5,6,7,8,9,10,11,12,13,14,15,16,17,18,19,20]),(25,[0,1,2,3,4,5,6,7,8,9,10,11,12,13,14,15,16,17,18,19,20,24]),(26,[0,1,2,3,4,5,6,7,8,9,10,11,12,13,14,15,16,17,18,19,20]),(27,[0,1,2,3,4,5,6,7,8,9,10,11,12,13,14,15,16,17,18,19,20,26]),(28,[0,1,2,3,4,5,6,7,8,9,10,11,12,13,14,15,16,17,18,19,20,24,25,26,27]),(29,[0,1,2,3,4,5,6,7,8,9,10,11,12,13,14,15,16,17,18,19,20,24,25,26,27,28]),(30,[0,1,2,3,4,5,6,7,8,9,10,11,12,13,14,15,16,17,18,19,20,24,25,26,27,28,29]),(31,[0,1,2,3,4,5,6,7,8,9,10,11,12,13,14,15,16,17,18,19,20,24,25,26,27,28,29,30]),(32,[0,1,2,3,4,5,6,7,8,9,10,11,12,13,14,15,16,17,18,19,20,21,22,23,24,25,26,27,28,29,30,31]),(33,[0,1,2,3,4,5,6,7,8,9,10,11,12,13,14,15,16,17,18,19,20,21,22,23,24,25,26,27,28,29,30,31,32])]
def zA5:List (Nat×List Nat):=[(0,[]),(1,[0]),(2,[]),(3,[0,1,2]),(4,[0,1,2,3]),(5,[]),(6,[]),(7,[6]),(8,[6,7]),(9,[5,6,7,8]),(10,[0,1,2,3,4,5,6,7,8,9]),(11,[0,1,2,3,4,5,6,7,8,9,10])]
attribute [local irreducible] WL AC WD WE MStep OkOp
theorem zeX(t:Tm):FC Tryz.prog 170 [aT t] (.bool (decide (t=zT))):=by
 refine zo hty Tryz.func170 rfl rfl rfl fun w0=>?_
 repeat'(first|refine WL_p hty rfl rfl ?_|refine zh ?_|refine zi ?_|refine za ?_|refine zg ?_|refine zx rfl rfl ?_|refine zq rfl rfl rfl ?_|refine zb rfl ?_|refine zj rfl rfl rfl rfl (fun _=>?_) (fun _=>?_))
 ·rename_i h1 h2 h3
  rw[zeb]at h3
  exact(decide_eq_true (Tm.ext h1 h2 (List.length_eq_zero_iff.1 (by omega)))).symm
 ·rename_i h3
  rw[zeb]at h3
  exact(decide_eq_false fun h=>h3 (by rw[h];rfl)).symm
 ·exact(decide_eq_false fun h=>by subst h;contradiction).symm
 ·exact(decide_eq_false fun h=>by subst h;contradiction).symm
theorem zbS(n lo hi:Int):FC Tryz.prog 128 [.int .i64 n,.int .i64 lo,.int .i64 hi] (.bool (inR n lo hi)):=by
 refine zo hty Tryz.func128 rfl rfl rfl fun w0=>?_
 repeat'(first|refine WL_p hty rfl rfl ?_|refine zh ?_|refine zi ?_|refine za ?_|refine zg ?_|refine zx rfl rfl ?_|refine zq rfl rfl rfl ?_|refine zb rfl ?_|refine zj rfl rfl rfl rfl (fun _=>?_) (fun _=>?_))
 all_goals(simp_all [inR] <;>(try intro) <;>omega)
theorem zdJ(t:Tm)(v:Int)(h:t.size≤1048576):FC Tryz.prog 169 [aT t,.int .i64 v] (.bool (openT t v)):=by
 refine zo hty Tryz.func169 rfl rfl rfl fun w0=>?_
 repeat'(first|refine zv 0 rfl (zgz t v 65536 h) rfl rfl rfl ?_|refine WL_p hty rfl rfl ?_|refine zh ?_|refine zi ?_|refine za ?_|refine zg ?_|refine zb rfl ?_)
 all_goals rfl
set_option maxRecDepth 4000 in
set_option maxHeartbeats 4000000 in
theorem zoa(b:Bl)(a:Ar)(i:Int)(hb:b.size≤1048576)(ha:a.size≤1048576)(hi0:0≤i)(hi1:i≤1048576):FC Tryz.prog 168 [aB b,aA a,.int .i64 i] (.bool (zbQ b a i)):=by
 have hsl:=zaa b.sorts
 unfold Bl.size at hb
 unfold Ar.size at ha
 have hd:=zM a.dom
 have hx:=zM a.idx
 have hw:IntKind.i64.wrap (((zY b.sorts).length:Int)-1)=(b.sorts.length:Int)-1:=by rw[zQ];exact zy (n:=(b.sorts.length:Int)-1) (by omega) (by omega)
 have hiF:=zbS a.sort 0 (IntKind.i64.wrap (((zY b.sorts).length:Int)-1))
 obtain⟨rc,tt,dd,so,ix⟩:=a
 simp only at ha hd hx hiF
 have hwd:IntKind.i64.wrap (((rsT dd).length:Int)+(rsT ix).length)=(dd.length:Int)+ix.length:=by
  rw[zeb,zeb];exact zy (n:=(dd.length:Int)+ix.length) (by omega) (by omega)
 refine zo hty Tryz.func168 rfl rfl rfl fun w0=>?_
 cases rc
 ·repeat'(first|refine zL rfl (zdJ tt i (by omega)) rfl (fun _=>?_) (fun _=>?_)|refine WL_p hty rfl rfl ?_|refine zh ?_|refine zi ?_|refine za ?_|refine zd rfl ?_|refine zg ?_|refine zx rfl rfl ?_|refine zq rfl rfl rfl ?_|refine zb rfl ?_|refine zj rfl rfl rfl rfl (fun _=>?_) (fun _=>?_))
  all_goals show _=(openT tt i&&(decide ((dd.length:Int)+ix.length=0)&&decide (so=0)))
  ·rename_i h1 h2 h3
   rw[h1,decide_eq_true (hwd.symm.trans h2),decide_eq_true h3];rfl
  ·rename_i h1 h2 h3
   rw[h1,decide_eq_true (hwd.symm.trans h2),decide_eq_false h3];rfl
  ·rename_i h1 h2
   rw[h1,decide_eq_false (fun q=>h2 (hwd.trans q))];rfl
  ·rename_i h1
   rw[h1];rfl
 have hae:zbQ b ⟨true,tt,dd,so,ix⟩ i=((decide (tt=zT)&&(decide (dd.length≤12)&&(inR so 0 ((b.sorts.length:Int)-1)&&decide (ix.length=idxN b so))))&&(zCc i dd&&ix.all fun t=>openT t (i+dd.length))):=rfl
 by_cases hin:inR so 0 ((b.sorts.length:Int)-1)=true
 ·have hin2:=hin
  simp only[inR,Bool.and_eq_true,decide_eq_true_eq]at hin2
  obtain⟨s,hs,hsm⟩:=zA (show so.toNat <b.sorts.length by omega)
  have rs:=zaK hs
  have hiF:=zqV hiF (show _=AV.bool true by rw[hw,hin])
  have hix:idxN b so=s.idx.length:=by unfold idxN;rw[hs]
  repeat'(first|refine zD (id:=3) zzR rfl (by kernel_rfl) ?_|refine zan rfl (zeX _) rfl (fun _=>?_) (fun _=>?_)|refine zad 0 rfl hiF rfl rfl rfl ?_|refine zbc rfl (zaq hty rfl rfl rfl hin2.1 rs rfl) ?_|refine zu (.inl ⟨rfl,zI hty rfl rfl⟩) ?_|refine zaG rfl rfl ?_|refine zav rfl rfl rfl ?_|refine zS ⟨by kernel_rfl,?_⟩|refine WL_p hty rfl rfl ?_|refine zh ?_|refine zi ?_|refine za ?_|refine zf ?_|refine zxg ?_|refine zd rfl ?_|refine zbZ rfl ?_|refine zg ?_|refine zb rfl ?_|refine zaC rfl rfl rfl rfl (fun _=>?_) (fun _=>?_))
  ·rename_i h1 h2
   have h2:12 <((rsT dd).length:Int):=h2
   rw[zeb]at h2
   rw[hae,show decide (dd.length≤12)=false from decide_eq_false (by omega)];simp
  ·rename_i h1 h2 h3
   have h3:((rsT ix).length:Int)≠(zX s.idx).length:=h3
   rw[zeb,zN]at h3
   rw[hae,hix,show decide (ix.length=s.idx.length)=false from decide_eq_false (by omega)];simp
  ·rename_i h1 h2 h3
   have h1:decide (tt=zT)=true:=h1
   have h2: ¬12 <((rsT dd).length:Int):=h2
   have h3: ¬((rsT ix).length:Int)≠(zX s.idx).length:=h3
   rw[zeb]at h2
   rw[zeb,zN]at h3
   rw[h1,hin,show decide (dd.length≤12)=true from decide_eq_true (by omega),hix,show decide (ix.length=s.idx.length)=true from decide_eq_true (by omega)]at hae
   simp only[Bool.true_and]at hae
   clear h1 hiF rs
   rw[hae]
   refine zW dd.length (fun j=>zCc i (dd.take j)=true) (fun j=>⟨envOf [(2,.int .i64 i),(3,.ptr 3 0),(4,.ptr 4 0),(7,.int .i64 (j:Nat))],
    bkOf [(3,.box [.lst 6 (zY b.sorts) false,.lst 6 (rsC b.cons) false,.int .i64 b.elim]),(4,.box (cA ⟨true,tt,dd,so,ix⟩))]⟩) (zfY ⟨zz rfl rfl,zz rfl rfl,zz rfl rfl,zz rfl rfl,trivial⟩ ⟨zw rfl rfl,zw rfl rfl,trivial⟩) rfl ?_
   intro j hj hI
   repeat'(first|refine WL_p hty rfl rfl ?_|refine zi ?_|refine za ?_)
   refine zj rfl rfl rfl rfl (fun hc=>?_) (fun hc=>?_)
   ·have hc:(j:Int) <((rsT dd).length:Int):=hc
    have hlt:j <dd.length:=by rw[zeb]at hc;omega
    obtain⟨k,hk,hmem⟩:=zA hlt
    have hks:=zK hmem
    have rk:=zac hk
    have hwr:IntKind.i64.wrap (i+(j:Nat))=i+(j:Nat):=zy (n:=i+(j:Nat)) (by omega) (by omega)
    have hop:=zdJ k (IntKind.i64.wrap (i+(j:Nat))) (by omega)
    repeat'(first|refine zL rfl hop rfl (fun _=>?_) (fun _=>?_)|refine WL_p hty rfl rfl ?_|refine zh ?_|refine zi ?_|refine za ?_|refine zf ?_|refine zxg ?_|refine zd rfl ?_|refine zbZ rfl ?_|refine zg ?_|refine WL_m rfl (zm hty rfl rfl rfl (by assumption) rfl) ?_|refine zb rfl ?_)
    all_goals(rename_i hb;rw[hwr]at hb)
    ·refine⟨hlt,by rw[zd5 hk,hI,hb];rfl,(zfY ⟨zz rfl rfl,zz rfl rfl,zz rfl rfl,⟨_,rfl,zO ?_ rfl⟩,trivial⟩ ⟨zw rfl rfl,zw rfl rfl,trivial⟩)⟩
     exact congrArg (AV.int .i64) ((zy (by omega) (by omega)).trans (by omega))
    ·rw[zei hk,hb];simp
   ·have hc: ¬(j:Int) <((rsT dd).length:Int):=hc
    obtain rfl:j=dd.length:=by rw[zeb]at hc;omega
    rw[List.take_length]at hI
    rw[hI,Bool.true_and]
    repeat'(first|refine WL_p hty rfl rfl ?_|refine zh ?_|refine zi ?_|refine za ?_|refine zf ?_|refine zbZ rfl ?_|refine zl ?_)
    refine zW ix.length (fun j=>(ix.take j).all (fun t=>openT t (i+dd.length))=true) (fun j=>⟨envOf [(2,.int .i64 i),(3,.ptr 3 0),(4,.ptr 4 0),(8,.int .i64 (j:Nat))],
     bkOf [(3,.box [.lst 6 (zY b.sorts) false,.lst 6 (rsC b.cons) false,.int .i64 b.elim]),(4,.box (cA ⟨true,tt,dd,so,ix⟩))]⟩) (zfY ⟨zz rfl rfl,zz rfl rfl,zz rfl rfl,zz rfl rfl,trivial⟩ ⟨zw rfl rfl,zw rfl rfl,trivial⟩) rfl ?_
    intro j hj hI
    repeat'(first|refine WL_p hty rfl rfl ?_|refine zi ?_|refine za ?_)
    refine zj rfl rfl rfl rfl (fun hc=>?_) (fun hc=>?_)
    ·have hc:(j:Int) <((rsT ix).length:Int):=hc
     have hlt:j <ix.length:=by rw[zeb]at hc;omega
     obtain⟨k,hk,hmem⟩:=zA hlt
     have hks:=zK hmem
     have rk:=zac hk
     have hwr:IntKind.i64.wrap (i+((rsT dd).length:Nat))=i+(dd.length:Nat):=by rw[zeb];exact zy (n:=i+(dd.length:Nat)) (by omega) (by omega)
     have hop:=zdJ k (IntKind.i64.wrap (i+((rsT dd).length:Nat))) (by omega)
     repeat'(first|refine zD (id:=13) zA5 rfl (by kernel_rfl) ?_|refine zan rfl hop rfl (fun _=>?_) (fun _=>?_)|refine zu (.inl ⟨rfl,zI hty rfl rfl⟩) ?_|refine zu (.inl ⟨rfl,zm hty rfl rfl rfl (by assumption) rfl⟩) ?_|refine zS ⟨by kernel_rfl,?_⟩|refine WL_p hty rfl rfl ?_|refine zh ?_|refine zi ?_|refine za ?_|refine zf ?_|refine zxg ?_|refine zd rfl ?_|refine zbZ rfl ?_|refine zg ?_|refine zb rfl ?_)
     all_goals(rename_i hb;rw[hwr]at hb)
     ·refine⟨hlt,by rw[List.take_add_one,hk,Option.toList_some,List.all_append,hI];simp[hb],(zfY ⟨zz rfl rfl,zz rfl rfl,zz rfl rfl,⟨_,rfl,zO ?_ rfl⟩,trivial⟩ ⟨zw rfl rfl,zw rfl rfl,trivial⟩)⟩
      exact congrArg (AV.int .i64) ((zy (by omega) (by omega)).trans (by omega))
     ·exact(List.all_eq_false.2 ⟨k,hmem,by simp[hb]⟩).symm
    ·have hc: ¬(j:Int) <((rsT ix).length:Int):=hc
     obtain rfl:j=ix.length:=by rw[zeb]at hc;omega
     rw[List.take_length]at hI
     repeat'(first|refine WL_p hty rfl rfl ?_|refine zh ?_|refine zi ?_|refine za ?_|refine zbZ rfl ?_|refine zl ?_|refine zg ?_|refine zb rfl ?_)
     exact hI.symm
  ·rename_i h1
   have h1:decide (tt=zT)=false:=h1
   rw[hae,h1];rfl
 ·have hiF:=zqV hiF (show _=AV.bool false by rw[hw,Bool.eq_false_iff.2 hin])
  repeat'(first|refine zD (id:=3) zzR rfl (by kernel_rfl) ?_|refine zan rfl (zeX _) rfl (fun _=>?_) (fun _=>?_)|refine zad 0 rfl hiF rfl rfl rfl ?_|refine zu (.inl ⟨rfl,zI hty rfl rfl⟩) ?_|refine zaG rfl rfl ?_|refine zav rfl rfl rfl ?_|refine zS ⟨by kernel_rfl,?_⟩|refine WL_p hty rfl rfl ?_|refine zh ?_|refine zi ?_|refine za ?_|refine zxg ?_|refine zd rfl ?_|refine zbZ rfl ?_|refine zg ?_|refine zb rfl ?_|refine zaC rfl rfl rfl rfl (fun _=>?_) (fun _=>?_))
  all_goals rw[hae,Bool.eq_false_iff.2 hin];simp
end Go.Proofs.YtokfbblhjpfjkaaGreat
namespace Go.Proofs.YtokfbblhjpfjkaaGreat
open Go.Aw Go.RowKit
def zpV:List (Nat×List Nat):=[(0,[]),(1,[0]),(2,[0,1]),(3,[]),(4,[]),(5,[0,1,4]),(6,[0,1,3,4,5]),(7,[0,1,2,3,4,5,6]),(8,[]),(9,[8]),(10,[8,9]),(11,[0,1,2,3,4,5,6,7,8,9,10]),(12,[0,1,2,3,4,5,6,7,8,9,10,11])]
def zB9:List (Nat×List Nat):=[(0,[]),(1,[]),(2,[1]),(3,[0,1,2]),(4,[]),(5,[]),(6,[1,2,5]),(7,[1,2,4,5,6]),(8,[0,1,2,3,4,5,6,7]),(9,[]),(10,[0,1,2,3,4,5,6,7,8,9]),(11,[0,1,2,3,4,5,6,7,8,9,10])]
def zBT:List (Nat×List Nat):=[(0,[]),(1,[]),(2,[1]),(3,[0,1,2]),(4,[]),(5,[]),(6,[1,2,5]),(7,[1,2,4,5,6]),(8,[0,1,2,3,4,5,6,7]),(9,[]),(10,[9]),(11,[9,10]),(12,[0,1,2,3,4,5,6,7,8,9,10,11]),(13,[]),(14,[0,1,2,3,4,5,6,7,8,9,10,11,12,13]),(15,[0,1,2,3,4,5,6,7,8,9,10,11,12,13,14])]
def zB7:List (Nat×List Nat):=[(0,[]),(1,[]),(2,[1]),(3,[0,1,2]),(4,[]),(5,[]),(6,[1,2,4,5]),(7,[0,1,2,3,4,5,6]),(8,[0,1,2,3,4,5,6,7])]
attribute [local irreducible] WL AC WD WE MStep OkOp
theorem zfT(b:Bl):FC Tryz.prog 135 [aB b] (.int .i64 (b.sorts.length:Nat)):=by
 refine zo hty Tryz.func135 rfl rfl rfl fun w0=>?_
 repeat'(first|refine WL_p hty rfl rfl ?_|refine zh ?_|refine zi ?_|refine za ?_|refine zg ?_)
 refine zaQ rfl ?_
 rw[zQ]
theorem zj3(b:Bl)(k:Nat)(hb:b.size≤1048576)(hk:k≤b.sorts.length):FC Tryz.prog 136 [aB b,.int .i64 (k:Nat)] (.int .i64 (zaX (b.sorts.take k):Nat)):=by
 unfold Bl.size at hb
 have hsl:=zaa b.sorts
 refine zo hty Tryz.func136 rfl rfl rfl fun w0=>?_
 repeat'(first|refine WL_p hty rfl rfl ?_|refine zh ?_|refine zi ?_|refine za ?_|refine zf ?_)
 refine zW k (fun _=>True) (fun j=>⟨envOf [(1,.int .i64 (k:Nat)),(2,.ptr 2 0),(5,.int .i64 (zaX (b.sorts.take j):Nat)),(6,.int .i64 (j:Nat))],bkOf [(2,.box (cB b))]⟩)
  (zfY ⟨zz rfl rfl,zz rfl rfl,zz rfl rfl,zz rfl rfl,trivial⟩ ⟨zw rfl rfl,trivial⟩) trivial ?_
 intro j hj _
 repeat'(first|refine WL_p hty rfl rfl ?_|refine zi ?_|refine za ?_)
 refine zj rfl rfl rfl rfl (fun hc=>?_) (fun hc=>?_)
 ·have hlt:j <k:=by omega
  have hin:(j:Int) <((zY b.sorts).length:Nat):=by rw[zQ];omega
  obtain⟨s,hs,hmem⟩:=zA (show j <b.sorts.length by omega)
  have rs:=zaK hs
  have hle:=zbN (b.sorts.take j)
  have hjl:(b.sorts.take j).length≤j:=by rw[List.length_take];omega
  have hts:=zdu hs
  obtain⟨sx,sl,sd,st⟩:=s
  cases sd
  ·repeat'(first|exact absurd hin (by assumption)|refine WL_p hty rfl rfl ?_|refine zh ?_|refine zi ?_|refine za ?_|refine zf ?_|refine zxg ?_|refine zd rfl ?_|refine zbZ rfl ?_|refine zx rfl rfl ?_|refine WL_m rfl (zm hty rfl rfl rfl (by assumption) rfl) ?_|refine zj rfl rfl rfl rfl (fun _=>?_) (fun _=>?_))
   refine⟨hlt,trivial,(zfY ⟨zz rfl rfl,zz rfl rfl,⟨_,rfl,zO ?_ rfl⟩,⟨_,rfl,zO ?_ rfl⟩,trivial⟩ ⟨zw rfl rfl,trivial⟩)⟩
   ·rw[hts];rfl
   ·exact congrArg (AV.int .i64) ((zy (by omega) (by omega)).trans (by omega))
  ·repeat'(first|exact absurd hin (by assumption)|refine WL_p hty rfl rfl ?_|refine zh ?_|refine zi ?_|refine za ?_|refine zf ?_|refine zxg ?_|refine zd rfl ?_|refine zx rfl rfl ?_|refine WL_m rfl (zm hty rfl rfl rfl (by assumption) rfl) ?_|refine zj rfl rfl rfl rfl (fun _=>?_) (fun _=>?_))
   refine⟨hlt,trivial,(zfY ⟨zz rfl rfl,zz rfl rfl,⟨_,rfl,zO ?_ rfl⟩,⟨_,rfl,zO ?_ rfl⟩,trivial⟩ ⟨zw rfl rfl,trivial⟩)⟩
   ·rw[hts]
    exact congrArg (AV.int .i64) ((zy (by omega) (by omega)).trans (by simp))
   ·exact congrArg (AV.int .i64) ((zy (by omega) (by omega)).trans (by omega))
 ·obtain rfl:j=k:=by omega
  repeat'(first|refine WL_p hty rfl rfl ?_|refine zh ?_|refine zi ?_|refine za ?_|refine zbZ rfl ?_|refine zl ?_|refine zg ?_|refine zq rfl rfl rfl ?_)
  exact zaQ rfl rfl
theorem zfA(b:Bl)(hb:b.size≤1048576):FC Tryz.prog 136 [aB b,.int .i64 (b.sorts.length:Nat)] (.int .i64 (zaX b.sorts:Nat)):=by
 have:=zj3 b b.sorts.length hb (Nat.le_refl _)
 rwa[List.take_length]at this
theorem zna(b:Bl)(hb:b.size≤1048576):FC Tryz.prog 87 [aB b] (.int .i64 (countN b:Nat)):=by
 have hd:=zfA b hb
 have hn:=zfT b
 unfold Bl.size at hb
 have hsl:=zaa b.sorts
 have hcl:=zak b.cons
 have hdl:=zbN b.sorts
 refine zo hty Tryz.func87 rfl rfl rfl fun w0=>?_
 repeat'(first|refine zD (id:=1) zpV rfl (by kernel_rfl) ?_|refine zu (.inl ⟨rfl,zar 0 rfl hn rfl rfl rfl⟩) ?_|refine zu (.inl ⟨rfl,zar 0 rfl hd rfl rfl rfl⟩) ?_|refine zu (.inl ⟨rfl,zI hty rfl rfl⟩) ?_|refine zS ⟨by kernel_rfl,?_⟩|refine WL_p hty rfl rfl ?_|refine zh ?_|refine zi ?_|refine za ?_|refine zg ?_)
 refine zaQ rfl ?_
 rw[zZ]
 unfold countN
 rw[zy (n:=2*(b.sorts.length:Int)) (by omega) (by omega),zy (n:=2*(b.sorts.length:Int)+(zaX b.sorts:Int)) (by omega) (by omega)]
 exact(zy (by omega) (by omega)).trans (by omega)
theorem zec{n lo hi:Int}:inR n lo hi=true↔lo≤n∧n≤hi:=by simp[inR]
theorem zeV{n lo hi:Int}:inR n lo hi=false↔ ¬(lo≤n∧n≤hi):=by rw[←zec];simp
theorem zgP(b:Bl)(base k:Int)(hb:b.size≤1048576):FC Tryz.prog 88 [aB b,.int .i64 base,.int .i64 k] (.int .i64 (zca b base k)):=by
 have hn:=zfT b
 unfold Bl.size at hb
 have hsl:=zaa b.sorts
 have w1:IntKind.i64.wrap ((b.sorts.length:Nat)-1:Int)=(b.sorts.length:Int)-1:=zy (by omega) (by omega)
 refine zo hty Tryz.func88 rfl rfl rfl fun w0=>?_
 repeat'(first|refine zv 0 rfl hn rfl rfl rfl ?_|refine zL rfl (zbS _ _ _) rfl (fun _=>?_) (fun _=>?_)|refine WL_p hty rfl rfl ?_|refine zh ?_|refine zi ?_|refine za ?_|refine zxg ?_|refine zd rfl ?_|refine zbZ rfl ?_|refine zg ?_|refine zx rfl rfl ?_|refine zot rfl rfl rfl ?_)
 all_goals refine zaQ rfl ?_
 all_goals unfold zca zb3
 all_goals simp only[w1,zec,zeV]at*
 ·rw[if_neg (by omega),if_neg (by omega),if_neg (by omega),if_neg (by omega)]
  exact(zy (by omega) (by omega)).trans (by omega)
 ·rw[if_neg (by omega),if_neg (by omega)]
  split
  ·rfl
  ·rw[if_pos (by omega)]
 ·split
  ·rfl
  ·rw[if_pos (by omega)]
theorem zd9(b:Bl)(base k:Int)(hb:b.size≤1048576):FC Tryz.prog 90 [aB b,.int .i64 base,.int .i64 k] (.int .i64 (zaO b base k)):=by
 have hn:=zfT b
 have hd:=zfA b hb
 unfold Bl.size at hb
 have hsl:=zaa b.sorts
 have hcl:=zak b.cons
 have hdl:=zbN b.sorts
 have w1:IntKind.i64.wrap (((rsC b.cons).length:Nat)-1:Int)=(b.cons.length:Int)-1:=by rw[zZ];exact zy (by omega) (by omega)
 refine zo hty Tryz.func90 rfl rfl rfl fun w0=>?_
 repeat'(first|refine zL rfl (zbS _ _ _) rfl (fun _=>?_) (fun _=>?_)|refine zD (id:=3) zB9 rfl (by kernel_rfl) ?_|refine zu (.inl ⟨rfl,zar 0 rfl hn rfl rfl rfl⟩) ?_|refine zu (.inl ⟨rfl,zar 0 rfl hd rfl rfl rfl⟩) ?_|refine zu (.inl ⟨rfl,zI hty rfl rfl⟩) ?_|refine zS ⟨by kernel_rfl,?_⟩|refine WL_p hty rfl rfl ?_|refine zh ?_|refine zi ?_|refine za ?_|refine zxg ?_|refine zd rfl ?_|refine zbZ rfl ?_|refine zg ?_|refine zx rfl rfl ?_|refine zot rfl rfl rfl ?_)
 all_goals refine zaQ rfl ?_
 all_goals unfold zaO zb3
 all_goals simp only[w1,zec,zeV]at*
 ·rw[if_neg (by omega),if_neg (by omega),if_neg (by omega),if_neg (by omega)]
  rw[zy (n:=base+(b.sorts.length:Nat)) (by omega) (by omega),zy (n:=base+(b.sorts.length:Nat)+(zaX b.sorts:Nat)) (by omega) (by omega)]
  exact(zy (by omega) (by omega)).trans (by omega)
 ·rw[if_neg (by omega),if_neg (by omega)]
  split
  ·rfl
  ·rw[if_pos (by omega)]
 ·split
  ·rfl
  ·rw[if_pos (by omega)]
theorem zew(b:Bl)(base k:Int)(hb:b.size≤1048576):FC Tryz.prog 91 [aB b,.int .i64 base,.int .i64 k] (.int .i64 (zaz b base k)):=by
 have hn:=zfT b
 have hd:=zfA b hb
 unfold Bl.size at hb
 have hsl:=zaa b.sorts
 have hcl:=zak b.cons
 have hdl:=zbN b.sorts
 have w1:IntKind.i64.wrap ((b.sorts.length:Nat)-1:Int)=(b.sorts.length:Int)-1:=zy (by omega) (by omega)
 refine zo hty Tryz.func91 rfl rfl rfl fun w0=>?_
 repeat'(first|refine zv 0 rfl hn rfl rfl rfl ?_|refine zL rfl (zbS _ _ _) rfl (fun _=>?_) (fun _=>?_)|refine zD (id:=3) zBT rfl (by kernel_rfl) ?_|refine zu (.inl ⟨rfl,zar 0 rfl hn rfl rfl rfl⟩) ?_|refine zu (.inl ⟨rfl,zar 0 rfl hd rfl rfl rfl⟩) ?_|refine zu (.inl ⟨rfl,zI hty rfl rfl⟩) ?_|refine zS ⟨by kernel_rfl,?_⟩|refine WL_p hty rfl rfl ?_|refine zh ?_|refine zi ?_|refine za ?_|refine zxg ?_|refine zd rfl ?_|refine zbZ rfl ?_|refine zg ?_|refine zx rfl rfl ?_|refine zot rfl rfl rfl ?_)
 all_goals refine zaQ rfl ?_
 all_goals unfold zaz zb3
 all_goals simp only[w1,zec,zeV]at*
 ·rw[if_neg (by omega),if_neg (by omega),if_neg (by omega),if_neg (by omega),zZ]
  rw[zy (n:=base+(b.sorts.length:Nat)) (by omega) (by omega),zy (n:=base+(b.sorts.length:Nat)+(zaX b.sorts:Nat)) (by omega) (by omega),zy (n:=base+(b.sorts.length:Nat)+(zaX b.sorts:Nat)+(b.cons.length:Nat)) (by omega) (by omega)]
  exact(zy (by omega) (by omega)).trans (by omega)
 ·rw[if_neg (by omega),if_neg (by omega)]
  split
  ·rfl
  ·rw[if_pos (by omega)]
 ·split
  ·rfl
  ·rw[if_pos (by omega)]
set_option maxHeartbeats 4000000 in
theorem zgl(b:Bl)(base k:Int)(hb:b.size≤1048576):FC Tryz.prog 89 [aB b,.int .i64 base,.int .i64 k] (.int .i64 (zaL b base k)):=by
 have hn:=zfT b
 have hb':=hb
 unfold Bl.size at hb
 have hsl:=zaa b.sorts
 have w1:IntKind.i64.wrap ((b.sorts.length:Nat)-1:Int)=(b.sorts.length:Int)-1:=zy (by omega) (by omega)
 by_cases hk:0≤k∧k <b.sorts.length
 ·obtain⟨s,hs,hsm⟩:=zA (show k.toNat <b.sorts.length by omega)
  have rs:=zaK hs
  have hds:decS b k=s.dec:=by unfold decS;rw[hs]
  have hd:=zj3 b k.toNat hb' (by omega)
  rw[show((k.toNat:Nat):Int)=k by omega]at hd
  have hdl:=zlh b.sorts k.toNat
  have hdl2:=zbN b.sorts
  have hk1:=hk.1
  have hin:inR k 0 ((b.sorts.length:Int)-1)=true:=zec.2 (by omega)
  have hlt:s.dec=true→zaX (b.sorts.take k.toNat) <zaX b.sorts:=fun q=>zeW hk1 (hds.trans q)
  obtain⟨sx,sl,sd,st⟩:=s
  simp only at hlt
  refine zo hty Tryz.func89 rfl rfl rfl fun w0=>?_
  cases sd
  all_goals
   repeat'(first|refine zv 0 rfl hn rfl rfl rfl ?_|refine zL rfl (zbS _ _ _) rfl (fun _=>?_) (fun _=>?_)|refine zD (id:=3) zB7 rfl (by kernel_rfl) ?_|refine zu (.inl ⟨rfl,zar 0 rfl hn rfl rfl rfl⟩) ?_|refine zu (.inl ⟨rfl,zar 0 rfl hd rfl rfl rfl⟩) ?_|refine WL_m rfl (zaq hty rfl rfl rfl hk1 rs rfl) ?_|refine zu (.inl ⟨rfl,zI hty rfl rfl⟩) ?_|refine zS ⟨by kernel_rfl,?_⟩|refine WL_p hty rfl rfl ?_|refine zh ?_|refine zi ?_|refine za ?_|refine zxg ?_|refine zd rfl ?_|refine zbZ rfl ?_|refine zg ?_|refine zx rfl rfl ?_|refine zot rfl rfl rfl ?_)
   all_goals refine zaQ rfl ?_
   all_goals unfold zaL zb3
   all_goals simp only[w1,zec,zeV,hds,true_implies,reduceCtorEq,false_implies,Bool.false_eq_true,if_false,if_true]at*
   all_goals first
    |(exfalso;omega)
    |(rw[if_neg (by omega),if_neg (by omega),if_neg (by omega),if_neg (by omega),if_neg (by omega),if_neg (by omega)]
      rw[zy (n:=base+(b.sorts.length:Nat)) (by omega) (by omega)]
      exact(zy (by omega) (by omega)).trans (by omega))
    |(repeat' split
      all_goals first
       |rfl
       |(exfalso;omega))
 ·have hin:inR k 0 ((b.sorts.length:Int)-1)=false:=zeV.2 (by omega)
  have hz:zaL b base k= -1:=by
   unfold zaL
   split
   ·rfl
   ·rw[if_pos (by omega)]
  rw[hz]
  refine zo hty Tryz.func89 rfl rfl rfl fun w0=>?_
  repeat'(first|(exfalso;have hq:=‹inR k 0 _=true›;rw[w1,hin]at hq;cases hq;done)|refine zv 0 rfl hn rfl rfl rfl ?_|refine zL rfl (zbS _ _ _) rfl (fun _=>?_) (fun _=>?_)|refine WL_p hty rfl rfl ?_|refine zh ?_|refine zi ?_|refine za ?_|refine zd rfl ?_|refine zg ?_|refine zx rfl rfl ?_|refine zot rfl rfl rfl ?_)
  all_goals exact zaQ rfl rfl
end Go.Proofs.YtokfbblhjpfjkaaGreat
namespace Go.Proofs.YtokfbblhjpfjkaaGreat
open Go.Aw Go.RowKit
attribute [local irreducible] WL AC WD WE MStep OkOp
def zvj(b:Bl)(base n:Int)(i:Nat):Prop:=zca b base i≠n∧zaL b base i≠n∧zaz b base i≠n
set_option maxHeartbeats 4000000 in
theorem zgU(b:Bl)(base n:Int)(hb:b.size≤1048576):FC Tryz.prog 174 [aB b,.int .i64 base,.int .i64 n] (.tup [.int .i64 (ofB b base n).1,.int .i64 (ofB b base n).2]):=by
 have hn:=zfT b
 have f3: ∀ k,FC Tryz.prog 88 [aB b,.int .i64 base,.int .i64 k] (.int .i64 (zca b base k)):=fun k=>zgP b base k hb
 have f4: ∀ k,FC Tryz.prog 89 [aB b,.int .i64 base,.int .i64 k] (.int .i64 (zaL b base k)):=fun k=>zgl b base k hb
 have f5: ∀ k,FC Tryz.prog 90 [aB b,.int .i64 base,.int .i64 k] (.int .i64 (zaO b base k)):=fun k=>zd9 b base k hb
 have f6: ∀ k,FC Tryz.prog 91 [aB b,.int .i64 base,.int .i64 k] (.int .i64 (zaz b base k)):=fun k=>zew b base k hb
 have hb':=hb
 unfold Bl.size at hb'
 have hsl:=zaa b.sorts
 have hcl:=zak b.cons
 by_cases h0:n <0
 ·have hz:=ztB (b:=b) (base:=base) h0
  have h0': ¬0≤n:=by omega
  rw[hz]
  refine zo hty Tryz.func174 rfl rfl rfl fun w0=>?_
  repeat'(first|refine WL_p hty rfl rfl ?_|refine zh ?_|refine zi ?_|refine za ?_|refine zf ?_)
  refine zW b.sorts.length (fun _=>True) (fun j=>⟨envOf [(1,.int .i64 base),(2,.int .i64 n),(3,.ptr 3 0),(8,.int .i64 (j:Nat))],bkOf [(3,.box (cB b))]⟩) (zfY ⟨zz rfl rfl,zz rfl rfl,zz rfl rfl,zz rfl rfl,trivial⟩ ⟨zw rfl rfl,trivial⟩) trivial ?_
  intro j hj _
  repeat'(first|refine zv 0 rfl hn rfl rfl rfl ?_|refine WL_p hty rfl rfl ?_|refine zi ?_|refine za ?_)
  refine zj rfl rfl rfl rfl (fun hc=>?_) (fun hc=>?_)
  ·have hlt:j <b.sorts.length:=by omega
   repeat'(first|exact absurd (by assumption) h0'|refine zv 0 rfl (f3 _) rfl rfl rfl ?_|refine zv 0 rfl (f4 _) rfl rfl rfl ?_|refine zv 0 rfl (f6 _) rfl rfl rfl ?_|refine WL_p hty rfl rfl ?_|refine zh ?_|refine zi ?_|refine za ?_|refine zf ?_|refine zxg ?_|refine zd rfl ?_|refine zbZ rfl ?_|refine zx rfl rfl ?_|refine zq rfl rfl rfl ?_|refine zj rfl rfl rfl rfl (fun _=>?_) (fun _=>?_))
   all_goals
    refine⟨hlt,trivial,(zfY ⟨zz rfl rfl,zz rfl rfl,zz rfl rfl,⟨_,rfl,zO ?_ rfl⟩,trivial⟩ ⟨zw rfl rfl,trivial⟩)⟩
    exact congrArg (AV.int .i64) ((zy (by omega) (by omega)).trans (by omega))
  ·repeat'(first|refine WL_p hty rfl rfl ?_|refine zh ?_|refine zi ?_|refine za ?_|refine zf ?_|refine zbZ rfl ?_|refine zl ?_)
   refine zW b.cons.length (fun _=>True) (fun j=>⟨envOf [(1,.int .i64 base),(2,.int .i64 n),(3,.ptr 3 0),(9,.int .i64 (j:Nat))],bkOf [(3,.box (cB b))]⟩) (zfY ⟨zz rfl rfl,zz rfl rfl,zz rfl rfl,zz rfl rfl,trivial⟩ ⟨zw rfl rfl,trivial⟩) trivial ?_
   intro j hj _
   repeat'(first|refine WL_p hty rfl rfl ?_|refine zi ?_|refine za ?_)
   refine zj rfl rfl rfl rfl (fun hc=>?_) (fun hc=>?_)
   ·have hlt:j <b.cons.length:=by rw[zZ]at hc;omega
    repeat'(first|exact absurd (by assumption) h0'|refine zv 0 rfl (f5 _) rfl rfl rfl ?_|refine WL_p hty rfl rfl ?_|refine zh ?_|refine zi ?_|refine za ?_|refine zf ?_|refine zxg ?_|refine zd rfl ?_|refine zbZ rfl ?_|refine zx rfl rfl ?_|refine zq rfl rfl rfl ?_|refine zj rfl rfl rfl rfl (fun _=>?_) (fun _=>?_))
    all_goals
     refine⟨hlt,trivial,(zfY ⟨zz rfl rfl,zz rfl rfl,zz rfl rfl,⟨_,rfl,zO ?_ rfl⟩,trivial⟩ ⟨zw rfl rfl,trivial⟩)⟩
     exact congrArg (AV.int .i64) ((zy (by omega) (by omega)).trans (by omega))
   ·repeat'(first|refine WL_p hty rfl rfl ?_|refine zh ?_|refine zi ?_|refine za ?_|refine zbZ rfl ?_|refine zl ?_|refine zg ?_)
    exact zH rfl rfl (.refl _)
 have h0:0≤n:=by omega
 refine zo hty Tryz.func174 rfl rfl rfl fun w0=>?_
 repeat'(first|refine WL_p hty rfl rfl ?_|refine zh ?_|refine zi ?_|refine za ?_|refine zf ?_)
 refine zW b.sorts.length (fun j=> ∀ i,i <j→zvj b base n i) (fun j=>⟨envOf [(1,.int .i64 base),(2,.int .i64 n),(3,.ptr 3 0),(8,.int .i64 (j:Nat))],bkOf [(3,.box (cB b))]⟩) (zfY ⟨zz rfl rfl,zz rfl rfl,zz rfl rfl,zz rfl rfl,trivial⟩ ⟨zw rfl rfl,trivial⟩) (fun i hi=>absurd hi (Nat.not_lt_zero _)) ?_
 intro j hj hI
 repeat'(first|refine zv 0 rfl hn rfl rfl rfl ?_|refine WL_p hty rfl rfl ?_|refine zi ?_|refine za ?_)
 refine zj rfl rfl rfl rfl (fun hc=>?_) (fun hc=>?_)
 ·have hlt:j <b.sorts.length:=by omega
  repeat'(first|exact absurd h0 ‹_›|refine zv 0 rfl (f3 _) rfl rfl rfl ?_|refine zv 0 rfl (f4 _) rfl rfl rfl ?_|refine zv 0 rfl (f6 _) rfl rfl rfl ?_|refine WL_p hty rfl rfl ?_|refine zh ?_|refine zi ?_|refine za ?_|refine zf ?_|refine zxg ?_|refine zd rfl ?_|refine zbZ rfl ?_|refine zg ?_|refine zx rfl rfl ?_|refine zq rfl rfl rfl ?_|refine zj rfl rfl rfl rfl (fun _=>?_) (fun _=>?_))
  all_goals first
   |(rw[zoN (k:=j) (by assumption) h0];exact zH rfl rfl (.refl _))
   |(rw[znm (k:=j) (by assumption) h0];exact zH rfl rfl (.refl _))
   |(rw[zi5 (k:=j) (by assumption) h0];exact zH rfl rfl (.refl _))
   |(refine⟨hlt,fun i hi=>?_,(zfY ⟨zz rfl rfl,zz rfl rfl,zz rfl rfl,⟨_,rfl,zO ?_ rfl⟩,trivial⟩ ⟨zw rfl rfl,trivial⟩)⟩
     ·rcases Nat.lt_or_ge i j with q|q
      ·exact hI i q
      ·obtain rfl:i=j:=by omega
       exact⟨by assumption,by assumption,by assumption⟩
     ·exact congrArg (AV.int .i64) ((zy (by omega) (by omega)).trans (by omega)))
 ·obtain rfl:j=b.sorts.length:=by omega
  repeat'(first|refine WL_p hty rfl rfl ?_|refine zh ?_|refine zi ?_|refine za ?_|refine zf ?_|refine zbZ rfl ?_|refine zl ?_)
  refine zW b.cons.length (fun j=> ∀ i:Nat,i <j→zaO b base i≠n) (fun j=>⟨envOf [(1,.int .i64 base),(2,.int .i64 n),(3,.ptr 3 0),(9,.int .i64 (j:Nat))],bkOf [(3,.box (cB b))]⟩) (zfY ⟨zz rfl rfl,zz rfl rfl,zz rfl rfl,zz rfl rfl,trivial⟩ ⟨zw rfl rfl,trivial⟩) (fun i hi=>absurd hi (Nat.not_lt_zero _)) ?_
  intro j hj hI2
  repeat'(first|refine WL_p hty rfl rfl ?_|refine zi ?_|refine za ?_)
  refine zj rfl rfl rfl rfl (fun hc=>?_) (fun hc=>?_)
  ·have hlt:j <b.cons.length:=by rw[zZ]at hc;omega
   repeat'(first|exact absurd h0 ‹_›|refine zv 0 rfl (f5 _) rfl rfl rfl ?_|refine WL_p hty rfl rfl ?_|refine zh ?_|refine zi ?_|refine za ?_|refine zf ?_|refine zxg ?_|refine zd rfl ?_|refine zbZ rfl ?_|refine zg ?_|refine zx rfl rfl ?_|refine zq rfl rfl rfl ?_|refine zj rfl rfl rfl rfl (fun _=>?_) (fun _=>?_))
   all_goals first
    |(rw[ziF (k:=j) (by assumption) h0];exact zH rfl rfl (.refl _))
    |(refine⟨hlt,fun i hi=>?_,(zfY ⟨zz rfl rfl,zz rfl rfl,zz rfl rfl,⟨_,rfl,zO ?_ rfl⟩,trivial⟩ ⟨zw rfl rfl,trivial⟩)⟩
      ·rcases Nat.lt_or_ge i j with q|q
       ·exact hI2 i q
       ·obtain rfl:i=j:=by omega
        assumption
      ·exact congrArg (AV.int .i64) ((zy (by omega) (by omega)).trans (by omega)))
  ·obtain rfl:j=b.cons.length:=by rw[zZ]at hc;omega
   repeat'(first|refine WL_p hty rfl rfl ?_|refine zh ?_|refine zi ?_|refine za ?_|refine zbZ rfl ?_|refine zl ?_|refine zg ?_)
   rw[ztp (fun k hk=>(hI k hk).1) (fun k hk=>(hI k hk).2.1) hI2 (fun k hk=>(hI k hk).2.2)]
   exact zH rfl rfl (.refl _)
end Go.Proofs.YtokfbblhjpfjkaaGreat
namespace Go.Proofs.YtokfbblhjpfjkaaGreat
open Go.Aw Go.RowKit
def zBN:List (Nat×List Nat):=[(0,[]),(1,[]),(2,[]),(3,[2]),(4,[2,3]),(5,[2,3,4]),(6,[2,3,4,5]),(7,[2,3,4,5,6]),(8,[1,2,3,4,5,6,7]),(9,[0,1,2,3,4,5,6,7,8]),(10,[0,1,2,3,4,5,6,7,8,9])]
def zzP:List (Nat×List Nat):=[(0,[101000]),(1,[]),(2,[]),(3,[2]),(4,[2,3]),(5,[2,3,4]),(6,[2,3,4,5]),(7,[2,3,4,5,6]),(8,[1,2,3,4,5,6,7]),(9,[0,1,2,3,4,5,6,7,8]),(10,[0,1,2,3,4,5,6,7,8,9])]
attribute [local irreducible] WL AC WD WE MStep OkOp
theorem zmw: ∀ (n:Nat) (t:Tm) (acc:List Tm),spN n t acc=((spN n t []).1,acc++(spN n t []).2)
 |0,t,acc=>by simp[spN]
 |n+1,t,acc=>by
  by_cases h2:zbC t 6=true
  ·obtain⟨f,a,hk⟩:=zb0 h2
   rw[zcn h2 hk,zcn h2 hk,zmw n f (acc++[a]),zmw n f ([]++[a])]
   simp
  ·have h2:zbC t 6=false:=by simpa using h2
   rw[zc5 h2,zc5 h2];simp
theorem zf3{t f a:Tm}(h:zbC t 6=true)(hk:t.kids=[f,a]):zF t=((zF f).1,(zF f).2++[a]):=by
 have hs:=t.size_eq
 rw[hk]at hs
 simp only[sizes]at hs
 have hp:=a.size_pos
 unfold zF
 rw[show t.size=(t.size-1)+1 by omega,zcn h hk,zmw]
 rw[zjU (t.size-1) f.size f [] (by omega) (Nat.le_refl _)]
 simp
theorem zhF{t:Tm}(h:zbC t 6=false):zF t=(t,[]):=by
 unfold zF
 rw[zc5 h];rfl
set_option maxHeartbeats 1000000 in
theorem zmN: ∀ n,n≤1048576→ ∀ t:Tm,t.size≤n→FC Tryz.prog 175 [aT t] (.tup [aT (zF t).1,znb (zF t).2]):=by
 intro n
 induction n with
 |zero=>intro hn t ht;have:=t.size_pos;omega
 |succ n ih=>
 intro hn t ht
 have hs:=t.size_eq
 have hlen:=zM t.kids
 by_cases h2:zbC t 6=true
 ·obtain⟨f,a,hk⟩:=zb0 h2
  have k6:t.kind=6:=by
   simp only[zbC,Bool.and_eq_true,decide_eq_true_eq]at h2;exact h2.1
  have hkl:((rsT t.kids).length:Int)=2:=by rw[zeb,hk];rfl
  rw[hk]at hs
  simp only[sizes]at hs
  have ihf:=ih (by omega) f (by omega)
  have hta:=zjM a (by omega)
  have hsl:=zbb f
  have hsl2:=zM (zF f).2
  have r0:(rsT t.kids)[0]? =some (cT f):=zac (by rw[hk];rfl)
  have r1:(rsT t.kids)[1]? =some (cT a):=zac (by rw[hk];rfl)
  rw[zf3 h2 hk]
  show FC _ _ _ (.tup [aT (zF f).1,znb ((zF f).2++[a])])
  have hrr:rsT ((zF f).2++[a])=rsT (zF f).2++[cT a]:=by rw[zas,rs1]
  have hlr:(rsT (zF f).2).length≤1048576:=by rw[zeb];omega
  unfold znb at ihf⊢
  rw[hrr]
  generalize rsT (zF f).2=rs at ihf hlr⊢
  generalize (zF f).1=g at ihf⊢
  refine zo hty Tryz.func175 rfl rfl rfl fun w0=>?_
  cases rs with
  |nil=>
   repeat'(first|exact absurd k6 ‹_›|exact absurd hkl ‹_›|refine WL_m rfl (zm (i:=0) hty rfl rfl rfl r0 rfl) ?_|refine zv 0 rfl ihf rfl rfl rfl ?_|(refine zbF (id:=4) ?_;refine zab (zfY (l:=[(1,_),(2,_),(4,_),(5,_)]) (bl:=[(1,_),(2,_),(4,_)]) ⟨zz rfl rfl,zz rfl rfl,zz rfl rfl,zz rfl rfl,trivial⟩ ⟨zw rfl rfl,zw rfl rfl,zw rfl rfl,trivial⟩) ?_;refine zD (id:=4) zBN rfl (by kernel_rfl) ?_)|refine zu (.inl ⟨rfl,zm (i:=1) hty rfl rfl rfl r1 rfl⟩) ?_|refine zu (.inl ⟨rfl,zar 0 rfl hta rfl rfl rfl⟩) ?_|refine zu (.inl ⟨rfl,ze7 hty 20 rfl rfl rfl rfl rfl rfl rfl (List.cons_ne_nil _ _) (Nat.le_of_ble_eq_true rfl) rfl rfl rfl⟩) ?_|refine zu (.inl ⟨rfl,zI hty rfl rfl⟩) ?_|refine zS ⟨by kernel_rfl,?_⟩|refine WL_p hty rfl rfl ?_|refine zh ?_|refine zi ?_|refine za ?_|refine zxg ?_|refine zbZ rfl ?_|refine zg ?_|refine zx rfl rfl ?_|refine zj rfl rfl rfl rfl (fun _=>?_) (fun _=>?_))
   exact zes rfl rfl rfl
  |cons r l=>
   repeat'(first|exact absurd k6 ‹_›|exact absurd hkl ‹_›|refine WL_m rfl (zm (i:=0) hty rfl rfl rfl r0 rfl) ?_|refine zv 0 rfl ihf rfl rfl rfl ?_|(refine zbF (id:=4) ?_;refine zab (zfY (l:=[(1,_),(2,_),(4,_),(5,_)]) (bl:=[(1,_),(2,_),(4,_),(1000,_)]) ⟨zz rfl rfl,zz rfl rfl,zz rfl rfl,zz rfl rfl,trivial⟩ ⟨zw rfl rfl,zw rfl rfl,zw rfl rfl,zw rfl rfl,trivial⟩) ?_;refine zD (id:=4) zzP rfl (by kernel_rfl) ?_)|refine zu (.inl ⟨rfl,zm (i:=1) hty rfl rfl rfl r1 rfl⟩) ?_|refine zu (.inl ⟨rfl,zar 0 rfl hta rfl rfl rfl⟩) ?_|refine zu (.inl ⟨rfl,zgH hty 20 rfl rfl rfl rfl rfl rfl rfl rfl (List.cons_ne_nil _ _) (by simp only[List.length_cons,List.length_nil]at*;omega) rfl rfl rfl⟩) ?_|refine zu (.inl ⟨rfl,zI hty rfl rfl⟩) ?_|refine zS ⟨by kernel_rfl,?_⟩|refine WL_p hty rfl rfl ?_|refine zh ?_|refine zi ?_|refine za ?_|refine zxg ?_|refine zbZ rfl ?_|refine zg ?_|refine zx rfl rfl ?_|refine zj rfl rfl rfl rfl (fun _=>?_) (fun _=>?_))
   exact zes rfl rfl rfl
 ·have h2:zbC t 6=false:=by simpa using h2
  have htw:=zjM t (by omega)
  have hno: ¬(t.kind=6∧((rsT t.kids).length:Int)=2):=by
   rintro ⟨q1,q2⟩
   rw[zeb]at q2
   have:t.kids.length=2:=by omega
   simp[zbC,q1,this]at h2
  rw[zhF h2]
  refine zo hty Tryz.func175 rfl rfl rfl fun w0=>?_
  repeat'(first|refine zv 0 rfl htw rfl rfl rfl ?_|refine WL_p hty rfl rfl ?_|refine zh ?_|refine zi ?_|refine za ?_|refine zxg ?_|refine zd rfl ?_|refine zbZ rfl ?_|refine zg ?_|refine zx rfl rfl ?_|refine zot rfl rfl rfl ?_|refine zj rfl rfl rfl rfl (fun _=>?_) (fun _=>?_))
  all_goals first
   |exact zH rfl rfl (.tup (.cons (.refl _) (.cons (.nil _ _ _) .nil)))
   |(exfalso;exact hno ⟨Decidable.not_not.1 (by assumption),Decidable.not_not.1 (by assumption)⟩)
theorem zma(t:Tm)(h:t.size≤1048576):FC Tryz.prog 175 [aT t] (.tup [aT (zF t).1,znb (zF t).2]):=zmN 1048576 (Nat.le_refl _) t h
structure Ql where
 b:Bl
 base:Int
 vars:List Int
 args:List Ar
abbrev cQ(p:Ql):List AV:=[.lst 6 (zY p.b.sorts) false,.lst 6 (rsC p.b.cons) false,.int .i64 p.b.elim,.int .i64 p.base,.lst 1 (rsI p.vars) false,.lst 7 (zX p.args) false]
abbrev aQ(p:Ql):AV:=.agg (cQ p)
def varsA:Nat→List Ar→List Int
 |_,[]=>[]
 |i,a::l=>(if a.rc=true then(i:Int)else -1)::varsA (i+1) l
def zaY(l:List Ar)(m:Nat):List Int:=varsA 0 l++List.replicate m (-1)
def plQ(b:Bl)(base:Int)(l:List Ar)(m:Nat):Ql:=⟨b,base,zaY l m,l⟩
theorem zcg: ∀ (l:List Ar) (i:Nat),(varsA i l).length=l.length
 |[],_=>rfl
 |a::l,i=>by simp[varsA,zcg l]
theorem zbV(l:List Ar)(m:Nat):(zaY l m).length=l.length+m:=by simp[zaY,zcg]
theorem zlu: ∀ (l:List Ar) (i j:Nat),(varsA i l)[j]? =(l[j]?).map fun a=>if a.rc=true then((i+j:Nat):Int)else -1
 |[],_,_=>by simp[varsA]
 |a::l,i,0=>by simp[varsA]
 |a::l,i,j+1=>by
  simp only[varsA,List.getElem?_cons_succ,zlu l (i+1) j]
  rw[show i+1+j=i+(j+1) by omega]
theorem zj2: ∀ (l:List Ar) (i:Nat) (a:Ar),varsA i (l++[a])=varsA i l++[if a.rc=true then((i+l.length:Nat):Int)else -1]
 |[],_,_=>by simp[varsA]
 |x::l,i,a=>by
  simp only[List.cons_append,varsA,zj2 l (i+1) a,List.length_cons]
  rw[show i+1+l.length=i+(l.length+1) by omega]
def zbX(vars:List Int)(n:Int):Int:=if(vars.length:Int)≤n then -1 else vars.getD (vars.length-1-n.toNat) 0
theorem zlj{args:List Ar}{m:Nat}{t:Tm}(hk:t.kind=1)(h0:0≤t.num):zbX (zaY args m) t.num=if(zal args m t).2=true then(zal args m t).1 else -1:=by
 by_cases h1:((args.length+m:Nat):Int)≤t.num
 ·have g1:zal args m t=(0,false):=by unfold zal;rw[if_neg];intro q;omega
  rw[g1]
  unfold zbX
  rw[zbV,if_pos h1];rfl
 ·unfold zbX
  rw[zbV,if_neg h1]
  by_cases h2:(m:Int)≤t.num
  ·have hi:args.length+m-1-t.num.toNat=((args.length:Int)-1-(t.num-m)).toNat:=by omega
   have hlt:((args.length:Int)-1-(t.num-m)).toNat <args.length:=by omega
   obtain⟨a,ha,_⟩:=zA hlt
   have g1:zal args m t=((args.length:Int)-1-(t.num-m),a.rc):=by
    unfold zal
    rw[if_pos (by exact⟨hk,h2,by omega⟩),ha]
   rw[g1,hi,List.getD_eq_getElem?_getD,zaY,List.getElem?_append_left (by rw[zcg];exact hlt),zlu,ha]
   simp only[Option.map_some,Option.getD_some,Nat.zero_add]
   split
   ·omega
   ·rfl
  ·have g1:zal args m t=(0,false):=by unfold zal;rw[if_neg];intro q;exact h2 q.2.1
   rw[g1,List.getD_eq_getElem?_getD,zaY,List.getElem?_append_right (by rw[zcg];omega),List.getElem?_replicate,if_pos (by rw[zcg];omega)]
   rfl
theorem zdb(p:Ql)(n:Int)(hl:p.vars.length≤8388608)(hn:0≤n∧n≤65535):FC Tryz.prog 173 [aQ p,.int .i64 n] (.int .i64 (zbX p.vars n)):=by
 have w1:IntKind.i64.wrap (((rsI p.vars).length:Int)-1)=(p.vars.length:Int)-1:=by rw[zap];exact zy (by omega) (by omega)
 have w3:IntKind.i64.wrap (IntKind.i64.wrap (((rsI p.vars).length:Int)-1)-n)=(p.vars.length:Int)-1-n:=by rw[w1];exact zy (by omega) (by omega)
 by_cases hg:(p.vars.length:Int)≤n
 ·have hgi:zbX p.vars n= -1:=by unfold zbX;rw[if_pos hg]
  have hg':n≥((rsI p.vars).length:Int):=by rw[zap];exact hg
  rw[hgi]
  refine zo hty Tryz.func173 rfl rfl rfl fun w0=>?_
  repeat'(first|exact absurd hg' ‹_›|refine WL_p hty rfl rfl ?_|refine zh ?_|refine zi ?_|refine za ?_|refine zd rfl ?_|refine zg ?_|refine zj rfl rfl rfl rfl (fun _=>?_) (fun _=>?_))
  exact zaQ rfl rfl
 ·have hlt:((p.vars.length:Int)-1-n).toNat <p.vars.length:=by omega
  have hgi:zbX p.vars n=p.vars[((p.vars.length:Int)-1-n).toNat]:=by
   unfold zbX
   rw[if_neg hg,List.getD_eq_getElem?_getD,show p.vars.length-1-n.toNat=((p.vars.length:Int)-1-n).toNat by omega,List.getElem?_eq_getElem hlt];rfl
  have hg': ¬n≥((rsI p.vars).length:Int):=by rw[zap];exact hg
  have ra:(rsI p.vars)[(IntKind.i64.wrap (IntKind.i64.wrap (((rsI p.vars).length:Int)-1)-n)).toNat]? =some [.int .i64 (zbX p.vars n)]:=by
   rw[w3,hgi];exact zd6 (List.getElem?_eq_getElem hlt)
  have n0:0≤IntKind.i64.wrap (IntKind.i64.wrap (((rsI p.vars).length:Int)-1)-n):=by omega
  refine zo hty Tryz.func173 rfl rfl rfl fun w0=>?_
  repeat'(first|exact absurd (by assumption) hg'|refine WL_m rfl (zaq hty rfl rfl rfl n0 ra rfl) ?_|refine WL_p hty rfl rfl ?_|refine zh ?_|refine zi ?_|refine za ?_|refine zxg ?_|refine zbZ rfl ?_|refine zg ?_|refine zj rfl rfl rfl rfl (fun _=>?_) (fun _=>?_))
  exact zaQ rfl rfl
end Go.Proofs.YtokfbblhjpfjkaaGreat
namespace Go.Proofs.YtokfbblhjpfjkaaGreat
open Go.Aw Go.RowKit
attribute [local irreducible] WL AC WD WE MStep OkOp
theorem zhb(l:List Int)(x:Int):rsI l++[[.int .i64 x]]=rsI (l++[x]):=by
 induction l with
 |nil=>rfl
 |cons a l ih=>simp only[rsI,List.map_cons,List.cons_append,List.map_append,List.map_nil]
theorem zeh(t:Tm)(h:t.size≤1048576):FC Tryz.prog 175 [aT t] (.tup [aT (zF t).1,sT (zF t).2]):=by
 have:=zma t h
 unfold znb at this
 show FC _ _ _ (.tup [aT (zF t).1,.lst 3 (rsT (zF t).2) false])
 generalize rsT (zF t).2=rs at this⊢
 cases rs with
 |nil=>exact this.weakT rfl rfl (.cons (.refl _) (.cons (.nilF _ _ _) .nil))
 |cons r l=>exact this.seen2 rfl
set_option maxHeartbeats 1000000 in
theorem zje(b:Bl)(base:Int)(l:List Ar)(hl:l.length≤1048576):FC Tryz.prog 130 [aB b,.int .i64 base,sA l] (aQ (plQ b base l 0)):=by
 refine zo hty Tryz.func130 rfl rfl rfl fun w0=>?_
 repeat'(first|refine WL_p hty rfl rfl ?_|refine zh ?_|refine zi ?_|refine za ?_|refine zf ?_)
 refine zab (zcc 103 rfl) ?_
 refine zW l.length (fun _=>True) (fun i=>⟨envOf [(2,sA l),(6,.ptr 6 0),(7,.ptr 7 0),(8,.int .i64 (i:Nat))],
  bkOf [(6,.box [.lst 6 [] true,.lst 6 [] true,.int .i64 0,.int .i64 0,.lst 1 [] true,.lst 7 [] true]),(7,.box [.lst 6 (zY b.sorts) false,.lst 6 (rsC b.cons) false,.int .i64 b.elim,.int .i64 base,grV 103 1 (rsI (varsA 0 (l.take i))),.lst 7 (zX l) false]),(103,grB 3 1 (rsI (varsA 0 (l.take i))))]⟩)
  (zfY ⟨zz rfl rfl,zz rfl rfl,zz rfl rfl,zz rfl rfl,trivial⟩ ⟨zw rfl rfl,zw rfl rfl,zw rfl rfl,trivial⟩) trivial ?_
 intro i hi _
 repeat'(first|refine WL_p hty rfl rfl ?_|refine zi ?_|refine za ?_)
 refine zj rfl rfl rfl rfl (fun hc=>?_) (fun hc=>?_)
 ·have hlt:i <l.length:=by rw[zN]at hc;omega
  obtain⟨a,ha,hmem⟩:=zA hlt
  have ra:=za6 ha
  have hnx:varsA 0 (l.take (i+1))=varsA 0 (l.take i)++[if a.rc=true then(i:Int)else -1]:=by
   rw[List.take_add_one,ha,Option.toList_some,zj2,Nat.zero_add,List.length_take,Nat.min_eq_left (by omega)]
  have hvl:(varsA 0 (l.take i)).length≤1048576:=by rw[zcg,List.length_take];omega
  rw[hnx]
  generalize varsA 0 (l.take i)=vs at hvl⊢
  obtain⟨rc,tt,dd,so,ix⟩:=a
  cases rc
  all_goals
   repeat'(first|refine WL_m rfl (zck hty 303 rfl rfl rfl rfl rfl rfl rfl (by simp only[zap,List.length_cons,List.length_nil];omega) rfl rfl rfl) ?_|refine WL_m rfl (zj8 hty rfl rfl rfl rfl zhK rfl rfl rfl) ?_|refine WL_p hty rfl rfl ?_|refine zh ?_|refine zi ?_|refine za ?_|refine zf ?_|refine zxg ?_|refine zd rfl ?_|refine zbZ rfl ?_|refine WL_m rfl (zm hty rfl rfl rfl (by assumption) rfl) ?_)
   refine⟨hlt,trivial,(zbf [(103,303)] rfl ⟨⟨_,rfl,.inl ⟨.refl _,rfl⟩⟩,⟨_,rfl,.inl ⟨.refl _,rfl⟩⟩,⟨_,rfl,.inl ⟨.refl _,rfl⟩⟩,⟨_,rfl,zO ?_ rfl⟩,trivial⟩ ⟨⟨⟨_,rfl,.refl _⟩,rfl⟩,?_,⟨⟨_,rfl,zdt ?_⟩,zbu⟩,trivial⟩)⟩
   ·exact congrArg (AV.int .i64) ((zy (by omega) (by omega)).trans (by omega))
   ·exact⟨⟨_,rfl,.box (.cons (.refl _) (.cons (.refl _) (.cons (.refl _) (.cons (.refl _) (.cons (zqf rfl (zhb _ _)) (.cons (.refl _) .nil))))))⟩,by simp only[keepB,List.all_cons,List.all_nil];rw[zg0] <;>rfl⟩
   ·exact zhb _ _
 ·obtain rfl:i=l.length:=by rw[zN]at hc;omega
  rw[List.take_length]
  have hv:zaY l 0=varsA 0 l:=by simp[zaY]
  show WL _ _ _ _ _ _ _
  repeat'(first|refine WL_p hty rfl rfl ?_|refine zh ?_|refine zi ?_|refine za ?_|refine zbZ rfl ?_|refine zl ?_|refine zg ?_)
  show zdS _ _ (.agg [.lst 6 (zY b.sorts) false,.lst 6 (rsC b.cons) false,.int .i64 b.elim,.int .i64 base,.lst 1 (rsI (zaY l 0)) false,.lst 7 (zX l) false]) _ _
  rw[hv]
  generalize rsI (varsA 0 l)=rs
  cases rs with
  |nil=>exact zH rfl rfl (.agg (.cons (.refl _) (.cons (.refl _) (.cons (.refl _) (.cons (.refl _) (.cons (.nilF _ _ _) (.cons (.refl _) .nil)))))))
  |cons r rs=>
   refine zbm (zaF 103 rfl) ?_
   exact zH rfl rfl (.refl _)
theorem zos(l:List Ar)(m n:Nat):zaY l (m+n)=zaY l m++List.replicate n (-1):=by
 unfold zaY;rw[List.append_assoc,List.replicate_append_replicate]
theorem zfk(n:Nat):List.replicate (n+1) (-1:Int)=List.replicate n (-1)++[-1]:=List.replicate_succ' ..
set_option maxHeartbeats 4000000 in
theorem zgx(b:Bl)(base:Int)(l:List Ar)(m n:Nat)(hl:l.length≤1048576)(hm:m+n≤2097152):FC Tryz.prog 172 [aQ (plQ b base l m),.int .i64 (n:Nat)] (aQ (plQ b base l (m+n))):=by
 have hvl:(zaY l m).length≤3145728-n:=by rw[zbV];omega
 have hti:=zkB (zaY l m) false (by omega)
 show FC _ _ [.agg [.lst 6 (zY b.sorts) false,.lst 6 (rsC b.cons) false,.int .i64 b.elim,.int .i64 base,.lst 1 (rsI (zaY l m)) false,.lst 7 (zX l) false],_] (.agg [.lst 6 (zY b.sorts) false,.lst 6 (rsC b.cons) false,.int .i64 b.elim,.int .i64 base,.lst 1 (rsI (zaY l (m+n))) false,.lst 7 (zX l) false])
 rw[zos]
 generalize zaY l m=vs at hti hvl⊢
 refine zo hty Tryz.func172 rfl rfl rfl fun w0=>?_
 cases vs with
 |nil=>
  repeat'(first|refine zv 20 rfl hti rfl rfl rfl ?_|refine WL_p hty rfl rfl ?_|refine zh ?_|refine zi ?_|refine za ?_|refine zf ?_)
  refine zab (zcc 103 rfl) ?_
  refine zW n (fun _=>True) (fun i=>⟨envOf [(1,.int .i64 (n:Nat)),(4,.ptr 4 0),(5,.ptr 5 0),(6,.int .i64 (i:Nat))],
   bkOf [(4,.box [.lst 6 [] true,.lst 6 [] true,.int .i64 0,.int .i64 0,.lst 1 [] true,.lst 7 [] true]),(5,.box [.lst 6 (zY b.sorts) false,.lst 6 (rsC b.cons) false,.int .i64 b.elim,.int .i64 base,grV 103 1 (rsI ([]++List.replicate i (-1))),.lst 7 (zX l) false]),(103,grB 3 1 (rsI ([]++List.replicate i (-1))))]⟩)
   (zfY ⟨zz rfl rfl,zz rfl rfl,zz rfl rfl,zz rfl rfl,trivial⟩ ⟨zw rfl rfl,zw rfl rfl,zw rfl rfl,trivial⟩) trivial ?_
  ·intro i hi _
   repeat'(first|refine WL_p hty rfl rfl ?_|refine zi ?_|refine za ?_)
   refine zj rfl rfl rfl rfl (fun hc=>?_) (fun hc=>?_)
   ·have hlt:i <n:=by omega
    repeat'(first|refine WL_m rfl (zck hty 303 rfl rfl rfl rfl rfl rfl rfl (by simp only[zap,List.length_append,List.length_replicate,List.length_cons,List.length_nil]at*;omega) rfl rfl rfl) ?_|refine WL_m rfl (zj8 hty rfl rfl rfl rfl zhK rfl rfl rfl) ?_|refine WL_p hty rfl rfl ?_|refine zh ?_|refine zi ?_|refine za ?_|refine zf ?_|refine zxg ?_|refine zd rfl ?_)
    rw[zfk, ←List.append_assoc, ←zhb]
    refine⟨hlt,trivial,(zbf [(103,303)] rfl ⟨⟨_,rfl,.inl ⟨.refl _,rfl⟩⟩,⟨_,rfl,.inl ⟨.refl _,rfl⟩⟩,⟨_,rfl,.inl ⟨.refl _,rfl⟩⟩,⟨_,rfl,zO ?_ rfl⟩,trivial⟩ ⟨⟨⟨_,rfl,.refl _⟩,rfl⟩,?_,⟨⟨_,rfl,zdt ?_⟩,zbu⟩,trivial⟩)⟩
    ·exact congrArg (AV.int .i64) ((zy (by omega) (by omega)).trans (by omega))
    ·exact⟨⟨_,rfl,.box (.cons (.refl _) (.cons (.refl _) (.cons (.refl _) (.cons (.refl _) (.cons (zqf rfl rfl) (.cons (.refl _) .nil))))))⟩,by simp only[keepB,List.all_cons,List.all_nil];rw[zg0] <;>rfl⟩
    ·rfl
   ·obtain rfl:i=n:=by omega
    repeat'(first|refine WL_p hty rfl rfl ?_|refine zh ?_|refine zi ?_|refine za ?_|refine zbZ rfl ?_|refine zl ?_|refine zg ?_)
    generalize rsI (_++List.replicate i (-1))=rs
    cases rs with
    |nil=>exact zH rfl rfl (.agg (.cons (.refl _) (.cons (.refl _) (.cons (.refl _) (.cons (.refl _) (.cons (.nilF _ _ _) (.cons (.refl _) .nil)))))))
    |cons r rs=>
     refine zbm (zaF 103 rfl) ?_
     exact zH rfl rfl (.refl _)
 |cons x r=>
  repeat'(first|refine zv 20 rfl hti rfl rfl rfl ?_|refine WL_p hty rfl rfl ?_|refine zh ?_|refine zi ?_|refine za ?_|refine zf ?_)
  refine zW n (fun _=>True) (fun i=>⟨envOf [(1,.int .i64 (n:Nat)),(4,.ptr 4 0),(5,.ptr 5 0),(6,.int .i64 (i:Nat))],
   bkOf [(4,.box [.lst 6 [] true,.lst 6 [] true,.int .i64 0,.int .i64 0,.lst 1 [] true,.lst 7 [] true]),(5,.box [.lst 6 (zY b.sorts) false,.lst 6 (rsC b.cons) false,.int .i64 b.elim,.int .i64 base,grV 103 1 (rsI ((x::r)++List.replicate i (-1))),.lst 7 (zX l) false]),(103,grB 3 1 (rsI ((x::r)++List.replicate i (-1))))]⟩)
   (zbf [(103,20)] rfl ⟨⟨_,rfl,.inl ⟨.refl _,rfl⟩⟩,⟨_,rfl,.inl ⟨.refl _,rfl⟩⟩,⟨_,rfl,.inl ⟨.refl _,rfl⟩⟩,⟨_,rfl,.inl ⟨.refl _,rfl⟩⟩,trivial⟩ ⟨⟨⟨_,rfl,.refl _⟩,rfl⟩,?_,?_,trivial⟩) trivial ?_
  ·exact⟨⟨_,rfl,.box (.cons (.refl _) (.cons (.refl _) (.cons (.refl _) (.cons (.refl _) (.cons (Wk.refl (.arr 20)) (.cons (.refl _) .nil))))))⟩,by simp only[keepB,List.all_cons,List.all_nil];rw[zg0] <;>rfl⟩
  ·exact⟨⟨_,rfl,.of_eq (by simp[grB,rsI,rnB])⟩,zbu⟩
  ·intro i hi _
   repeat'(first|refine WL_p hty rfl rfl ?_|refine zi ?_|refine za ?_)
   refine zj rfl rfl rfl rfl (fun hc=>?_) (fun hc=>?_)
   ·have hlt:i <n:=by omega
    repeat'(first|refine WL_m rfl (zck hty 303 rfl rfl rfl rfl rfl rfl rfl (by simp only[zap,List.length_append,List.length_replicate,List.length_cons,List.length_nil]at*;omega) rfl rfl rfl) ?_|refine WL_m rfl (zj8 hty rfl rfl rfl rfl zhK rfl rfl rfl) ?_|refine WL_p hty rfl rfl ?_|refine zh ?_|refine zi ?_|refine za ?_|refine zf ?_|refine zxg ?_|refine zd rfl ?_)
    rw[zfk, ←List.append_assoc, ←zhb]
    refine⟨hlt,trivial,(zbf [(103,303)] rfl ⟨⟨_,rfl,.inl ⟨.refl _,rfl⟩⟩,⟨_,rfl,.inl ⟨.refl _,rfl⟩⟩,⟨_,rfl,.inl ⟨.refl _,rfl⟩⟩,⟨_,rfl,zO ?_ rfl⟩,trivial⟩ ⟨⟨⟨_,rfl,.refl _⟩,rfl⟩,?_,⟨⟨_,rfl,zdt ?_⟩,zbu⟩,trivial⟩)⟩
    ·exact congrArg (AV.int .i64) ((zy (by omega) (by omega)).trans (by omega))
    ·exact⟨⟨_,rfl,.box (.cons (.refl _) (.cons (.refl _) (.cons (.refl _) (.cons (.refl _) (.cons (zqf rfl rfl) (.cons (.refl _) .nil))))))⟩,by simp only[keepB,List.all_cons,List.all_nil];rw[zg0] <;>rfl⟩
    ·rfl
   ·obtain rfl:i=n:=by omega
    repeat'(first|refine WL_p hty rfl rfl ?_|refine zh ?_|refine zi ?_|refine za ?_|refine zbZ rfl ?_|refine zl ?_|refine zg ?_)
    generalize rsI (_++List.replicate i (-1))=rs
    cases rs with
    |nil=>exact zH rfl rfl (.agg (.cons (.refl _) (.cons (.refl _) (.cons (.refl _) (.cons (.refl _) (.cons (.nilF _ _ _) (.cons (.refl _) .nil)))))))
    |cons r rs=>
     refine zbm (zaF 103 rfl) ?_
     exact zH rfl rfl (.refl _)
end Go.Proofs.YtokfbblhjpfjkaaGreat
namespace Go.Proofs.YtokfbblhjpfjkaaGreat
open Go.Aw Go.RowKit
def zzI:List (Nat×List Nat):=[(0,[]),(1,[0]),(2,[]),(3,[2]),(4,[2,3]),(5,[2,3,4]),(6,[0,1,2,3,4,5]),(7,[0,1,2,3,4,5,6]),(8,[0,1,2,3,4,5,6,7]),(9,[0,1,2,3,4,5,6,7,8]),(10,[0,1,2,3,4,5,6,7,8,9]),(11,[0,1,2,3,4,5,6,7,8,9,10]),(12,[0,1,2,3,4,5,6,7,8,9,10,11]),(13,[0,1,2,3,4,5,6,7,8,9,10,11,12]),(14,[0,1,2,3,4,5,6,7,8,9,10,11,12,13]),(15,[0,1,2,3,4,5,6,7,8,9,10,11,12,13,14]),(16,[0,1,2,3,4,5,6,7,8,9,10,11,12,13,14,15]),(17,[0,1,2,3,4,5,6,7,8,9,10,11,12,13,14,15,16]),(18,[0,1,2,3,4,5,6,7,8,9,10,11,12,13,14]),(19,[0,1,2,3,4,5,6,7,8,9,10,11,12,13,14,18]),(20,[0,1,2,3,4,5,6,7,8,9,10,11,12,13,14]),(21,[0,1,2,3,4,5,6,7,8,9,10,11,12,13,14,20]),(22,[0,1,2,3,4,5,6,7,8,9,10,11,12,13,14,18,19,20,21]),(23,[0,1,2,3,4,5,6,7,8,9,10,11,12,13,14,18,19,20,21,22]),(24,[0,1,2,3,4,5,6,7,8,9,10,11,12,13,14,18,19,20,21,22,23]),(25,[0,1,2,3,4,5,6,7,8,9,10,11,12,13,14,18,19,20,21,22,23,24]),(26,[0,1,2,3,4,5,6,7,8,9,10,11,12,13,14,15,16,17,18,19,20,21,22,23,24,25]),(27,[0,1,2,3,4,5,6,7,8,9,10,11,12,13,14,15,16,17,18,19,20,21,22,23,24,25,26])]
def zA3:List (Nat×List Nat):=[(0,[]),(1,[]),(2,[1]),(3,[]),(4,[1,2,3]),(5,[1,2,3,4]),(6,[]),(7,[0,1,2,3,4,5,6]),(8,[0,1,2,3,4,5,6,7])]
def zAE:List (Nat×List Nat):=[(0,[]),(1,[0]),(2,[]),(3,[0,1,2]),(4,[0,1,2,3]),(5,[]),(6,[5]),(7,[5,6]),(8,[0,1,2,3,4,5,6,7]),(9,[0,1,2,3,4,5,6,7,8])]
attribute [local irreducible] WL AC WD WE MStep OkOp
set_option maxRecDepth 4000 in
set_option maxHeartbeats 4000000 in
theorem zsZ(b:Bl)(c:Cn)(hb:b.size≤1048576)(ha:c.size≤1048576):FC Tryz.prog 171 [aB b,aC c] (.bool (zel b c)):=by
 have hsl:=zaa b.sorts
 have hb':=hb
 unfold Bl.size at hb'
 unfold Cn.size at ha
 have hd:=zae c.args
 have hx:=zM c.idx
 have hw:IntKind.i64.wrap (((zY b.sorts).length:Int)-1)=(b.sorts.length:Int)-1:=by rw[zQ];exact zy (n:=(b.sorts.length:Int)-1) (by omega) (by omega)
 have hiF:=zbS c.sort 0 (IntKind.i64.wrap (((zY b.sorts).length:Int)-1))
 obtain⟨so,ar,ix,de⟩:=c
 simp only at ha hd hx hiF
 refine zo hty Tryz.func171 rfl rfl rfl fun w0=>?_
 have hae:zel b ⟨so,ar,ix,de⟩=((inR so 0 ((b.sorts.length:Int)-1)&&(decide (ar.length≤12)&&decide (ix.length=idxN b so)))&&
  (zaT b 0 ar&&((ix.all fun t=>openT t ar.length)&&(if decS b so=true then openT de ar.length else decide (de=zT))))):=rfl
 by_cases hin:inR so 0 ((b.sorts.length:Int)-1)=true
 ·have hin2:=hin
  simp only[inR,Bool.and_eq_true,decide_eq_true_eq]at hin2
  obtain⟨s,hs,hsm⟩:=zA (show so.toNat <b.sorts.length by omega)
  have rs:=zaK hs
  have hiF:=zqV hiF (show _=AV.bool true by rw[hw,hin])
  have hix:idxN b so=s.idx.length:=by unfold idxN;rw[hs]
  have hde:decS b so=s.dec:=by unfold decS;rw[hs]
  repeat'(first|refine zD (id:=1) zzI rfl (by kernel_rfl) ?_|refine zad 0 rfl hiF rfl rfl rfl ?_|refine zbc rfl (zaq hty rfl rfl rfl hin2.1 rs rfl) ?_|refine zu (.inl ⟨rfl,zI hty rfl rfl⟩) ?_|refine zaG rfl rfl ?_|refine zav rfl rfl rfl ?_|refine zS ⟨by kernel_rfl,?_⟩|refine WL_p hty rfl rfl ?_|refine zh ?_|refine zi ?_|refine za ?_|refine zf ?_|refine zxg ?_|refine zd rfl ?_|refine zbZ rfl ?_|refine zg ?_|refine zb rfl ?_|refine zaC rfl rfl rfl rfl (fun _=>?_) (fun _=>?_))
  ·rename_i h2
   have h2:12 <((zX ar).length:Int):=h2
   rw[zN]at h2
   rw[hae,show decide (ar.length≤12)=false from decide_eq_false (by omega)];simp
  ·rename_i h2 h3
   have h3:((rsT ix).length:Int)≠(zX s.idx).length:=h3
   rw[zeb,zN]at h3
   rw[hae,hix,show decide (ix.length=s.idx.length)=false from decide_eq_false (by omega)];simp
  ·rename_i h2 h3
   have h2: ¬12 <((zX ar).length:Int):=h2
   have h3: ¬((rsT ix).length:Int)≠(zX s.idx).length:=h3
   rw[zN]at h2
   rw[zeb,zN]at h3
   rw[hin,show decide (ar.length≤12)=true from decide_eq_true (by omega),hix,show decide (ix.length=s.idx.length)=true from decide_eq_true (by omega),hde]at hae
   simp only[Bool.true_and]at hae
   clear hiF
   rw[hae]
   refine zW ar.length (fun j=>zaT b 0 (ar.take j)=true) (fun j=>⟨envOf [(2,.ptr 2 0),(3,.ptr 3 0),(5,.int .i64 (j:Nat))],
    bkOf [(2,.box [.lst 6 (zY b.sorts) false,.lst 6 (rsC b.cons) false,.int .i64 b.elim]),(3,.box (cC ⟨so,ar,ix,de⟩))]⟩) (zfY ⟨zz rfl rfl,zz rfl rfl,zz rfl rfl,trivial⟩ ⟨zw rfl rfl,zw rfl rfl,trivial⟩) rfl ?_
   intro j hj hI
   repeat'(first|refine WL_p hty rfl rfl ?_|refine zi ?_|refine za ?_)
   refine zj rfl rfl rfl rfl (fun hc=>?_) (fun hc=>?_)
   ·have hc:(j:Int) <((zX ar).length:Int):=hc
    have hlt:j <ar.length:=by rw[zN]at hc;omega
    obtain⟨k,hk,hmem⟩:=zA hlt
    have hks:=zaM hmem
    have rk:=za6 hk
    have hop:=zoa b k (j:Nat) hb (by omega) (by omega) (by omega)
    repeat'(first|refine zD (id:=6) zA3 rfl (by kernel_rfl) ?_|refine zan rfl hop rfl (fun _=>?_) (fun _=>?_)|refine zu (.inl ⟨rfl,zI hty rfl rfl⟩) ?_|refine zu (.inl ⟨rfl,zm hty rfl rfl rfl (by assumption) rfl⟩) ?_|refine zS ⟨by kernel_rfl,?_⟩|refine WL_p hty rfl rfl ?_|refine zh ?_|refine zi ?_|refine za ?_|refine zf ?_|refine zxg ?_|refine zd rfl ?_|refine zbZ rfl ?_|refine zg ?_|refine zb rfl ?_)
    all_goals rename_i hq
    ·refine⟨hlt,by rw[zcW hk,hI,Int.zero_add,hq];rfl,(zfY ⟨zz rfl rfl,zz rfl rfl,⟨_,rfl,zO ?_ rfl⟩,trivial⟩ ⟨zw rfl rfl,zw rfl rfl,trivial⟩)⟩
     exact congrArg (AV.int .i64) ((zy (by omega) (by omega)).trans (by omega))
    ·rw[zdE hk,Int.zero_add,hq];simp
   ·have hc: ¬(j:Int) <((zX ar).length:Int):=hc
    obtain rfl:j=ar.length:=by rw[zN]at hc;omega
    rw[List.take_length]at hI
    rw[hI,Bool.true_and]
    repeat'(first|refine WL_p hty rfl rfl ?_|refine zh ?_|refine zi ?_|refine za ?_|refine zf ?_|refine zbZ rfl ?_|refine zl ?_)
    refine zW ix.length (fun j=>(ix.take j).all (fun t=>openT t ar.length)=true) (fun j=>⟨envOf [(2,.ptr 2 0),(3,.ptr 3 0),(6,.int .i64 (j:Nat))],
     bkOf [(2,.box [.lst 6 (zY b.sorts) false,.lst 6 (rsC b.cons) false,.int .i64 b.elim]),(3,.box (cC ⟨so,ar,ix,de⟩))]⟩) (zfY ⟨zz rfl rfl,zz rfl rfl,zz rfl rfl,trivial⟩ ⟨zw rfl rfl,zw rfl rfl,trivial⟩) rfl ?_
    intro j hj hI
    repeat'(first|refine WL_p hty rfl rfl ?_|refine zi ?_|refine za ?_)
    refine zj rfl rfl rfl rfl (fun hc=>?_) (fun hc=>?_)
    ·have hc:(j:Int) <((rsT ix).length:Int):=hc
     have hlt:j <ix.length:=by rw[zeb]at hc;omega
     obtain⟨k,hk,hmem⟩:=zA hlt
     have hks:=zK hmem
     have rk:=zac hk
     have hop:=zdJ k ((zX ar).length:Nat) (by omega)
     repeat'(first|refine zD (id:=11) zAE rfl (by kernel_rfl) ?_|refine zan rfl hop rfl (fun _=>?_) (fun _=>?_)|refine zu (.inl ⟨rfl,zI hty rfl rfl⟩) ?_|refine zu (.inl ⟨rfl,zm hty rfl rfl rfl (by assumption) rfl⟩) ?_|refine zS ⟨by kernel_rfl,?_⟩|refine WL_p hty rfl rfl ?_|refine zh ?_|refine zi ?_|refine za ?_|refine zf ?_|refine zxg ?_|refine zd rfl ?_|refine zbZ rfl ?_|refine zg ?_|refine zb rfl ?_)
     all_goals(rename_i hb;rw[zN]at hb)
     ·refine⟨hlt,by rw[List.take_add_one,hk,Option.toList_some,List.all_append,hI];simp[hb],(zfY ⟨zz rfl rfl,zz rfl rfl,⟨_,rfl,zO ?_ rfl⟩,trivial⟩ ⟨zw rfl rfl,zw rfl rfl,trivial⟩)⟩
      exact congrArg (AV.int .i64) ((zy (by omega) (by omega)).trans (by omega))
     ·rw[List.all_eq_false.2 ⟨k,hmem,by simp[hb]⟩];rfl
    ·have hc: ¬(j:Int) <((rsT ix).length:Int):=hc
     obtain rfl:j=ix.length:=by rw[zeb]at hc;omega
     rw[List.take_length]at hI
     rw[hI,Bool.true_and]
     have hop:=zdJ de ((zX ar).length:Nat) (by omega)
     rw[zN]at hop
     obtain⟨sx,sl,sd,st⟩:=s
     cases sd
     ·repeat'(first|refine WL_m rfl (zaq hty rfl rfl rfl hin2.1 rs rfl) ?_|refine zv 0 rfl (zeX de) rfl rfl rfl ?_|refine WL_p hty rfl rfl ?_|refine zh ?_|refine zi ?_|refine za ?_|refine zxg ?_|refine zbZ rfl ?_|refine zl ?_|refine zg ?_|refine zb rfl ?_)
      all_goals rfl
     ·rw[←zN ar]at hop
      repeat'(first|refine WL_m rfl (zaq hty rfl rfl rfl hin2.1 rs rfl) ?_|refine zv 0 rfl hop rfl rfl rfl ?_|refine WL_p hty rfl rfl ?_|refine zh ?_|refine zi ?_|refine za ?_|refine zd rfl ?_|refine zbZ rfl ?_|refine zl ?_|refine zg ?_|refine zb rfl ?_)
      all_goals rw[zN];rfl
 ·have hiF:=zqV hiF (show _=AV.bool false by rw[hw,Bool.eq_false_iff.2 hin])
  repeat'(first|refine zD (id:=1) zzI rfl (by kernel_rfl) ?_|refine zad 0 rfl hiF rfl rfl rfl ?_|refine zu (.inl ⟨rfl,zI hty rfl rfl⟩) ?_|refine zav rfl rfl rfl ?_|refine zS ⟨by kernel_rfl,?_⟩|refine WL_p hty rfl rfl ?_|refine zh ?_|refine zi ?_|refine za ?_|refine zd rfl ?_|refine zg ?_|refine zb rfl ?_)
  all_goals rw[hae,Bool.eq_false_iff.2 hin];simp
end Go.Proofs.YtokfbblhjpfjkaaGreat
namespace Go.Proofs.YtokfbblhjpfjkaaGreat
open Go.Aw Go.RowKit
def zBd:List (Nat×List Nat):=[(0,[]),(1,[]),(2,[1]),(3,[]),(4,[1,2,3]),(5,[1,2,3,4]),(6,[]),(7,[0,1,2,3,4,5,6]),(8,[0,1,2,3,4,5,6,7]),(9,[0,1,2,3,4,5,6,7,8]),(10,[0,1,2,3,4,5,6,7,8,9]),(11,[0,1,2,3,4,5,6,7,8,9,10]),(12,[0,1,2,3,4,5,6,7,8,9]),(13,[0,1,2,3,4,5,6,7,8,9,10,11,12]),(14,[0,1,2,3,4,5,6,7,8,9,10,11,12,13]),(15,[0,1,2,3,4,5,6,7,8,9,10,11,12,13,14]),(16,[0,1,2,3,4,5,6,7,8,9,10,11,12,13,14,15]),(17,[0,1,2,3,4,5,6,7,8,9,10,11,12,13,14,15,16]),(18,[0,1,2,3,4,5,6,7,8,9,10,11,12,13,14,15,16,17]),(19,[0,1,2,3,4,5,6,7,8,9,10,11,12,13,14,15,16]),(20,[0,1,2,3,4,5,6,7,8,9,10,11,12,13,14,15,16,17,18,19]),(21,[0,1,2,3,4,5,6,7,8,9,10,11,12,13,14,15,16,17,18,19,20]),(22,[0,1,2,3,4,5,6,7,8,9,10,11,12,13,14,15,16,17,18,19,20,21]),(23,[0,1,2,3,4,5,6,7,8,9,10,11,12,13,14,15,16,17,18,19,20,21,22]),(24,[0,1,2,3,4,5,6,7,8,9,10,11,12,13,14,15,16,17,18,19,20,21,22,23]),(25,[0,1,2,3,4,5,6,7,8,9,10,11,12,13,14,15,16,17,18,19,20,21,22,23,24]),(26,[0,1,2,3,4,5,6,7,8,9,10,11,12,13,14,15,16,17,18,19,20,21,22,23,24,25]),(27,[0,1,2,3,4,5,6,7,8,9,10,11,12,13,14,15,16,17,18,19,20,21,22,23,24,25,26]),(28,[0,1,2,3,4,5,6,7,8,9,10,11,12,13,14,15,16,17,18,19,20,21,22,23,24,25]),(29,[0,1,2,3,4,5,6,7,8,9,10,11,12,13,14,15,16,17,18,19,20,21,22,23,24,25,26,27,28]),(30,[0,1,2,3,4,5,6,7,8,9,10,11,12,13,14,15,16,17,18,19,20,21,22,23,24,25,26,27,28,29]),(31,[0,1,2,3,4,5,6,7,8,9,10,11,12,13,14,15,16,17,18,19,20,21,22,23,24,25,26,27,28,29,30]),(32,[0,1,2,3,4,5,6,7,8,9,10,11,12,13,14,15,16,17,18,19,20,21,22,23,24,25]),(33,[0,1,2,3,4,5,6,7,8,9,10,11,12,13,14,15,16,17,18,19,20,21,22,23,24,25,26,27,28,29,30,31,32]),(34,[0,1,2,3,4,5,6,7,8,9,10,11,12,13,14,15,16,17,18,19,20,21,22,23,24,25,26,27,28,29,30,31,32,33]),(35,[0,1,2,3,4,5,6,7,8,9,10,11,12,13,14,15,16,17,18,19,20,21,22,23,24,25,26,27,28,29,30,31,32,33,34]),(36,[0,1,2,3,4,5,6,7,8,9,10,11,12,13,14,15,16,17,18,19,20,21,22,23,24,25,26,27,28,29,30,31,32,33,34,35])]
def zBx:List (Nat×List Nat):=[(0,[]),(1,[]),(2,[1]),(3,[]),(4,[1,2,3]),(5,[1,2,3,4]),(6,[0,1,2,3,4,5]),(7,[0,1,2,3,4,5,6])]
attribute [local irreducible] WL AC WD WE MStep OkOp
def znB(k:Int)(a:Ar):Bool:=a.rc&&(decide (0 <a.dom.length)||decide (k≤a.sort))
theorem zqm(k:Int)(d:Bool)(l:List Ar):l.any (zeR k d)=(l.any (znB k)||(d&&l.any (·.rc))):=by
 induction l with
 |nil=>simp
 |cons a l ih=>
  simp only[List.any_cons,ih,zeR,znB]
  cases a.rc <;>cases d <;>simp[Bool.or_assoc]
  all_goals(cases decide (0 <a.dom.length) <;>simp)
theorem zlD{α:Type}(p:α→Bool)(l:List α):l.all p= !(l.any fun k=> !p k):=by
 induction l with
 |nil=>rfl
 |cons a l ih=>simp only[List.all_cons,List.any_cons,ih,Bool.not_or,Bool.not_not]
theorem zkr{b:Bl}{k:Nat}{s:Sr}(hs:b.sorts[k]? =some s)(h:sortB b k s=false):zaS b=false:=by
 cases hq:zaS b with
 |false=>rfl
 |true=>
  simp only[zaS,Bool.and_eq_true]at hq
  have:=zcz.1 hq.2.2.2.1 k s hs
  rw[Nat.zero_add,h]at this;cases this
set_option maxRecDepth 4000 in
set_option maxHeartbeats 8000000 in
theorem znP(b:Bl)(hb:b.size≤1048576):FC Tryz.prog 127 [aB b] (.bool (zaS b)):=by
 have hsl:=zaa b.sorts
 have hcl:=zak b.cons
 have hb':=hb
 unfold Bl.size at hb'
 have hsh:zaS b=(inR (b.sorts.length:Nat) 1 4&&(decide (b.cons.length≤8)&&(inR b.elim 0 6&&(ze6 b 0 b.sorts&&b.cons.all (zel b))))):=rfl
 have i1:=zbS ((zY b.sorts).length:Nat) 1 4
 rw[zQ]at i1
 rw[←zQ b.sorts]at i1
 refine zo hty Tryz.func127 rfl rfl rfl fun w0=>?_
 repeat'(first|refine zL rfl (zbS _ _ _) rfl (fun _=>?_) (fun _=>?_)|refine WL_p hty rfl rfl ?_|refine zh ?_|refine zi ?_|refine za ?_|refine zf ?_|refine zxg ?_|refine zd rfl ?_|refine zbZ rfl ?_|refine zg ?_|refine zx rfl rfl ?_|refine zot rfl rfl rfl ?_|refine zb rfl ?_|refine zj rfl rfl rfl rfl (fun _=>?_) (fun _=>?_))
 ·rename_i q1 q2
  rw[zZ]at q2
  rw[hsh,show decide (b.cons.length≤8)=false from decide_eq_false (by omega)];simp
 ·rename_i q1 q2 q3
  refine zW b.sorts.length (fun j=> ∀ (i:Nat) (s:Sr),i <j→b.sorts[i]? =some s→sortB b i s=true) (fun j=>⟨envOf [(1,.ptr 1 0),(3,.int .i64 (j:Nat))],
   bkOf [(1,.box [.lst 6 (zY b.sorts) false,.lst 6 (rsC b.cons) false,.int .i64 b.elim])]⟩) (zfY ⟨zz rfl rfl,zz rfl rfl,trivial⟩ ⟨zw rfl rfl,trivial⟩) (fun i s hi=>absurd hi (Nat.not_lt_zero _)) ?_
  intro j hj hI
  repeat'(first|refine WL_p hty rfl rfl ?_|refine zi ?_|refine za ?_)
  refine zj rfl rfl rfl rfl (fun hc=>?_) (fun hc=>?_)
  ·have hlt:j <b.sorts.length:=by rw[zQ]at hc;omega
   obtain⟨s,hs,hsm⟩:=zA hlt
   have rs:=zaK hs
   have hss:=zat hsm
   unfold Sr.size at hss
   have hil:=zae s.idx
   have hop:=zdJ s.decT ((zX s.idx).length:Nat) (by omega)
   have hbad:sortB b j s=false→zaS b=false:=zkr hs
   have hse:sortB b j s=((decide (s.idx.length≤12)&&zaT b 0 s.idx)&&(inR s.level 0 6&&(zeE s.dec s.decT s.idx.length&& !(s.idx.any (zeR j s.dec))))):=rfl
   repeat'(first|refine zL rfl (zbS _ _ _) rfl (fun _=>?_) (fun _=>?_)|refine WL_p hty rfl rfl ?_|refine zh ?_|refine zi ?_|refine za ?_|refine zf ?_|refine zxg ?_|refine zd rfl ?_|refine zbZ rfl ?_|refine zg ?_|refine zx rfl rfl ?_|refine zot rfl rfl rfl ?_|refine WL_m rfl (zm hty rfl rfl rfl (by assumption) rfl) ?_|refine zb rfl ?_|refine zj rfl rfl rfl rfl (fun _=>?_) (fun _=>?_))
   ·rename_i p1
    have p1:((zX s.idx).length:Int)>12:=p1
    rw[zN]at p1
    exact(hbad (by rw[hse,show decide (s.idx.length≤12)=false from decide_eq_false (by omega)];rfl)).symm
   ·rename_i p1 p2
    have p1: ¬((zX s.idx).length:Int)>12:=p1
    rw[zN]at p1
    rw[show decide (s.idx.length≤12)=true from decide_eq_true (by omega),p2,Bool.true_and,Bool.true_and]at hse
    refine zW s.idx.length (fun i=>zaT b 0 (s.idx.take i)=true∧(s.idx.take i).any (znB j)=false) (fun i=>⟨envOf [(1,.ptr 1 0),(3,.int .i64 (j:Nat)),(4,.ptr 4 0),(5,.bool ((s.idx.take i).any (·.rc))),(6,.int .i64 (i:Nat))],
     bkOf [(1,.box [.lst 6 (zY b.sorts) false,.lst 6 (rsC b.cons) false,.int .i64 b.elim]),(4,.box (cS s))]⟩) (zfY ⟨zz rfl rfl,zz rfl rfl,zz rfl rfl,zz rfl rfl,zz rfl rfl,trivial⟩ ⟨zw rfl rfl,zw rfl rfl,trivial⟩) ⟨rfl,rfl⟩ ?_
    intro i hi hK
    repeat'(first|refine WL_p hty rfl rfl ?_|refine zi ?_|refine za ?_)
    refine zj rfl rfl rfl rfl (fun hd=>?_) (fun hd=>?_)
    ·have hlt2:i <s.idx.length:=by rw[zN]at hd;omega
     obtain⟨a,ha,ham⟩:=zA hlt2
     have ra:=za6 ha
     have has:=zaM ham
     have hfa:=zoa b a (i:Nat) hb (by omega) (by omega) (by omega)
     have hts:(s.idx.take (i+1)).any (·.rc)=((s.idx.take i).any (·.rc)||a.rc):=zaA ha
     have htb:(s.idx.take (i+1)).any (znB j)=((s.idx.take i).any (znB j)||znB j a):=zaA ha
     have htq:zaT b 0 (s.idx.take (i+1))=(zaT b 0 (s.idx.take i)&&zbQ b a (0+(i:Nat))):=zcW ha 0
     rw[Int.zero_add]at htq
     rw[htq,htb,hts,hK.1,hK.2]
     have hbA:zbQ b a (i:Nat)=false→zaS b=false:=fun q=>hbad (by rw[hse,zdE ha,Int.zero_add,q];simp)
     have hbB:znB j a=true→zaS b=false:=fun q=>hbad (by rw[hse,zqm,zbI ha q];simp)
     have hbe:znB j a=(a.rc&&(decide (0 <a.dom.length)||decide ((j:Int)≤a.sort))):=rfl
     generalize (s.idx.take i).any (·.rc)=rr
     obtain⟨rc,tt,dd,so,ix⟩:=a
     have hfin:(AV.int .i64 (IntKind.i64.wrap ((i:Nat)+1)))=.int .i64 ((i+1:Nat):Int):=congrArg (AV.int .i64) ((zy (by omega) (by omega)).trans (by omega))
     cases rc
     all_goals
      repeat'(first|refine zD (id:=13) zBd rfl (by kernel_rfl) ?_|refine zan rfl hfa rfl (fun _=>?_) (fun _=>?_)|refine zu (.inl ⟨rfl,zI hty rfl rfl⟩) ?_|refine zu (.inl ⟨rfl,zm hty rfl rfl rfl (by assumption) rfl⟩) ?_|refine zaG rfl rfl ?_|refine zau rfl rfl rfl ?_|refine zav rfl rfl rfl ?_|refine zaw rfl rfl rfl ?_|refine zS ⟨by kernel_rfl,?_⟩|refine WL_p hty rfl rfl ?_|refine zh ?_|refine zi ?_|refine za ?_|refine zf ?_|refine zxg ?_|refine zd rfl ?_|refine zbZ rfl ?_|refine zg ?_|refine zb rfl ?_|refine zaC rfl rfl rfl rfl (fun _=>?_) (fun _=>?_))
     all_goals first
      |(refine(hbA ?_).symm;assumption)
      |(refine(hbB ?_).symm;rw[hbe];simp only[zeb]at*;simp;omega)
      |skip
     all_goals
      cases rr
      all_goals
       repeat'(first|refine WL_p hty rfl rfl ?_|refine zh ?_|refine za ?_|refine zx rfl rfl ?_|refine zot rfl rfl rfl ?_|refine WL_m rfl (zm hty rfl rfl rfl (by assumption) rfl) ?_)
       refine⟨hlt2,⟨?_,?_⟩,(zfY ⟨zz rfl rfl,zz rfl rfl,zz rfl rfl,zz rfl rfl,⟨_,rfl,zO ?_ rfl⟩,trivial⟩ ⟨zw rfl rfl,zw rfl rfl,trivial⟩)⟩
       ·simp[*]
       ·rw[hbe];simp only[zeb]at*
        first
         |rfl
         |(rw[show decide (0 <dd.length)=false from decide_eq_false (by omega),show decide ((j:Int)≤so)=false from decide_eq_false (by omega)];rfl)
       ·exact hfin
    ·have hd: ¬(i:Int) <((zX s.idx).length:Int):=hd
     obtain rfl:i=s.idx.length:=by rw[zN]at hd;omega
     rw[List.take_length]at hK⊢
     rw[zqm,hK.1,hK.2,Bool.true_and,Bool.false_or]at hse
     have hnext:sortB b j s=true→ ∀ (i:Nat) (s:Sr),i <j+1→b.sorts[i]? =some s→sortB b i s=true:=fun hp i u hi hu=>by
      rcases Nat.lt_or_ge i j with q|q
      ·exact hI i u q hu
      ·obtain rfl:i=j:=by omega
       rw[hs]at hu
       obtain rfl:=Option.some.inj hu
       exact hp
     generalize s.idx.any (·.rc)=rr at hse⊢
     obtain⟨sx,sl,sd,st⟩:=s
     have hfin:(AV.int .i64 (IntKind.i64.wrap ((j:Nat)+1)))=.int .i64 ((j+1:Nat):Int):=congrArg (AV.int .i64) ((zy (by omega) (by omega)).trans (by omega))
     rw[zN]at hop
     rw[←zN sx]at hop
     cases sd <;>cases rr
     all_goals
      repeat'(first|refine zL rfl (zeX _) rfl (fun _=>?_) (fun _=>?_)|refine zL rfl hop rfl (fun _=>?_) (fun _=>?_)|refine WL_p hty rfl rfl ?_|refine zh ?_|refine zi ?_|refine za ?_|refine zxg ?_|refine zd rfl ?_|refine zbZ rfl ?_|refine zl ?_|refine zg ?_|refine zx rfl rfl ?_|refine zq rfl rfl rfl ?_|refine zot rfl rfl rfl ?_|refine zr rfl rfl rfl ?_|refine zb rfl ?_)
     all_goals first
      |(refine(hbad ?_).symm
        rw[hse]
        simp only[zeE,zN]at*
        simp[*]
        done)
      |(refine⟨hlt,hnext ?_,(zfY ⟨zz rfl rfl,⟨_,rfl,zO ?_ rfl⟩,trivial⟩ ⟨zw rfl rfl,trivial⟩)⟩
        ·rw[hse]
         simp only[zeE,zN]at*
         simp[*]
        ·exact hfin)
   ·rename_i p1 p2
    exact(hbad (by rw[hse,p2];simp)).symm
  ·obtain rfl:j=b.sorts.length:=by rw[zQ]at hc;omega
   have hss:ze6 b 0 b.sorts=true:=zcz.2 fun i s hs=>by rw[Nat.zero_add];exact hI i s (List.getElem?_eq_some_iff.1 hs).1 hs
   have q2':b.cons.length≤8:=by
    have: ¬((rsC b.cons).length:Int)>8:=q2
    rw[zZ]at this;omega
   have q1':inR (b.sorts.length:Nat) 1 4=true:=by
    have:inR ((zY b.sorts).length:Nat) 1 4=true:=q1
    rwa[zQ]at this
   rw[q1',decide_eq_true q2',show inR b.elim 0 6=true from q3,hss]at hsh
   simp only[Bool.true_and]at hsh
   rw[hsh,zlD]
   repeat'(first|refine WL_p hty rfl rfl ?_|refine zh ?_|refine zi ?_|refine za ?_|refine zf ?_|refine zbZ rfl ?_|refine zl ?_)
   refine zW b.cons.length (fun j=>(b.cons.take j).any (fun c=> !zel b c)=false) (fun j=>⟨envOf [(1,.ptr 1 0),(7,.int .i64 (j:Nat))],
    bkOf [(1,.box [.lst 6 (zY b.sorts) false,.lst 6 (rsC b.cons) false,.int .i64 b.elim])]⟩) (zfY ⟨zz rfl rfl,zz rfl rfl,trivial⟩ ⟨zw rfl rfl,trivial⟩) rfl ?_
   intro j hj hI2
   repeat'(first|refine WL_p hty rfl rfl ?_|refine zi ?_|refine za ?_)
   refine zj rfl rfl rfl rfl (fun hc=>?_) (fun hc=>?_)
   ·have hlt:j <b.cons.length:=by rw[zZ]at hc;omega
    obtain⟨c,hcc,hcm⟩:=zA hlt
    have rc:=zby hcc
    have hcs:=zaB hcm
    have hcs2:=zsZ b c hb (by omega)
    have hat:=zaA (p:=fun c=> !zel b c) hcc
    repeat'(first|refine zD (id:=21) zBx rfl (by kernel_rfl) ?_|refine zan rfl hcs2 rfl (fun _=>?_) (fun _=>?_)|refine zu (.inl ⟨rfl,zI hty rfl rfl⟩) ?_|refine zu (.inl ⟨rfl,zm hty rfl rfl rfl (by assumption) rfl⟩) ?_|refine zS ⟨by kernel_rfl,?_⟩|refine WL_p hty rfl rfl ?_|refine zh ?_|refine zi ?_|refine za ?_|refine zf ?_|refine zxg ?_|refine zd rfl ?_|refine zbZ rfl ?_|refine zg ?_|refine zb rfl ?_)
    all_goals rename_i q
    ·refine⟨hlt,by rw[hat,hI2,q];rfl,(zfY ⟨zz rfl rfl,⟨_,rfl,zO ?_ rfl⟩,trivial⟩ ⟨zw rfl rfl,trivial⟩)⟩
     exact congrArg (AV.int .i64) ((zy (by omega) (by omega)).trans (by omega))
    ·rw[zbI (p:=fun c=> !zel b c) hcc (by simp[q])];rfl
   ·obtain rfl:j=b.cons.length:=by rw[zZ]at hc;omega
    rw[List.take_length]at hI2
    rw[hI2]
    repeat'(first|refine WL_p hty rfl rfl ?_|refine zh ?_|refine zi ?_|refine za ?_|refine zbZ rfl ?_|refine zl ?_|refine zg ?_|refine zb rfl ?_)
    rfl
 ·rename_i q1 q2 q3
  rw[hsh,show inR b.elim 0 6=false from q3];simp
 ·rename_i q1
  have q1':inR (b.sorts.length:Nat) 1 4=false:=by
   have:inR ((zY b.sorts).length:Nat) 1 4=false:=q1
   rwa[zQ]at this
  rw[hsh,q1'];rfl
end Go.Proofs.YtokfbblhjpfjkaaGreat
namespace Go.Proofs.YtokfbblhjpfjkaaGreat
open Go.Aw Go.RowKit
def zBR:List (Nat×List Nat):=[(0,[]),(1,[]),(2,[0,1]),(3,[0,1,2]),(4,[]),(5,[]),(6,[4,5]),(7,[4,5,6]),(8,[0,1,2,3,4,5,6,7]),(9,[0,1,2,3,4,5,6,7,8])]
def zBM:List (Nat×List Nat):=[(0,[]),(1,[0]),(2,[]),(3,[0,1,2]),(4,[0,1,2,3]),(5,[]),(6,[5]),(7,[]),(8,[5,6,7]),(9,[5,6,7,8]),(10,[]),(11,[]),(12,[0,1,2,3,4,10,11]),(13,[0,1,2,3,4,5,6,7,8,9,10,11,12])]
def zBi:List (Nat×List Nat):=[(0,[]),(1,[0]),(2,[]),(3,[0,1,2]),(4,[0,1,2,3]),(5,[]),(6,[5]),(7,[]),(8,[5,6,7]),(9,[5,6,7,8]),(10,[0,1,2,3,4,5,6,7,8,9]),(11,[0,1,2,3,4,5,6,7,8,9,10])]
attribute [local irreducible] WL AC WD WE MStep OkOp
theorem zsj:zdA Tryz.prog 4=true:=by kernel_rfl
attribute [local irreducible] zdA
theorem zhi(la lb:List Tm)(h:sizes la≤1048576):FC Tryz.prog 50 [sT la,sT lb] (.bool (decide (la=lb))):=zie 1048576 (by omega) la lb h
theorem zr1(a b:Ar)(ha:a.size≤1048576):FC Tryz.prog 137 [aA a,aA b] (.bool (decide (a=b))):=by
 unfold Ar.size at ha
 refine zo hty Tryz.func137 rfl rfl rfl fun w0=>?_
 repeat'(first|refine zL rfl (zhi _ _ (by omega)) rfl (fun _=>?_) (fun _=>?_)|refine zL rfl (zcZ _ _ (by omega)) rfl (fun _=>?_) (fun _=>?_)|refine zpC hty zsj rfl rfl rfl (fun _=>?_) (fun _=>?_)|refine WL_p hty rfl rfl ?_|refine zh ?_|refine zi ?_|refine za ?_|refine zg ?_|refine zx rfl rfl ?_|refine zq rfl rfl rfl ?_|refine zb rfl ?_|refine zj rfl rfl rfl rfl (fun _=>?_) (fun _=>?_))
 all_goals(cases a;cases b;simp_all)
theorem zjD(la lb:List Ar)(ha:zaH la≤1048576):FC Tryz.prog 92 [sA la,sA lb] (.bool (decide (la=lb))):=by
 have hla:=zae la
 refine zo hty Tryz.func92 rfl rfl rfl fun w0=>?_
 repeat'(first|refine WL_p hty rfl rfl ?_|refine zh ?_|refine zi ?_|refine za ?_|refine zf ?_|refine zxg ?_|refine zd rfl ?_|refine zbZ rfl ?_|refine zg ?_|refine zb rfl ?_|refine zj rfl rfl rfl rfl (fun _=>?_) (fun _=>?_))
 ·rename_i h
  exact(decide_eq_false fun q=>h (by rw[q])).symm
 rename_i h
 rw[zN,zN]at h
 have h:la.length=lb.length:=by omega
 refine zW la.length (fun j=>la.take j=lb.take j) (fun j=>⟨envOf [(0,sA la),(1,sA lb),(5,.int .i64 (j:Nat))],bkOf []⟩)
  (zfY ⟨zz rfl rfl,zz rfl rfl,zz rfl rfl,trivial⟩ trivial) rfl ?_
 intro j hj hI
 repeat'(first|refine WL_p hty rfl rfl ?_|refine zh ?_|refine zi ?_|refine za ?_|refine zf ?_|refine zxg ?_|refine zd rfl ?_|refine zbZ rfl ?_|refine zl ?_|refine zg ?_|refine zb rfl ?_|refine zj rfl rfl rfl rfl (fun _=>?_) (fun _=>?_))
 ·rename_i hc
  rw[zN]at hc
  have hlt:j <la.length:=by omega
  obtain⟨a,ha,hma⟩:=zA hlt
  obtain⟨b,hb,_⟩:=zA (h▸hlt)
  have:=zaM hma
  have ra:=za6 ha
  have rb:=za6 hb
  refine zD (id:=6) zBR rfl (by kernel_rfl) ?_
  repeat'(first|refine zu (.inl ⟨rfl,zar 0 rfl (zr1 _ _ (by omega)) rfl rfl rfl⟩) ?_|refine zu (.inl ⟨rfl,zI hty rfl rfl⟩) ?_|refine zu (.inl ⟨rfl,zm hty rfl rfl rfl (by assumption) rfl⟩) ?_|refine zS ⟨by kernel_rfl,?_⟩|refine WL_p hty rfl rfl ?_|refine zh ?_|refine zi ?_|refine za ?_|refine zxg ?_|refine zg ?_|refine zb rfl ?_|refine zDp rfl (fun _=>?_) (fun _=>?_))
  ·rename_i hab
   have hab:a≠b:=by simpa using hab
   refine(decide_eq_false fun q=>hab ?_).symm
   rw[q,hb]at ha
   exact(Option.some.inj ha).symm
  ·rename_i hab
   have hab:a=b:=by simpa using hab
   refine⟨hlt,?_,(zfY ⟨zz rfl rfl,zz rfl rfl,⟨_,rfl,zO ?_ rfl⟩,trivial⟩ trivial)⟩
   ·rw[List.take_add_one,List.take_add_one,hI,ha,hb,hab]
   ·exact congrArg (AV.int .i64) ((zy (by omega) (by omega)).trans (by omega))
 ·rename_i hc
  rw[zN]at hc
  obtain rfl:j=la.length:=by omega
  refine(decide_eq_true ?_).symm
  rw[List.take_length,h,List.take_length]at hI
  exact hI
theorem zr4(a b:Cn)(ha:a.size≤1048576):FC Tryz.prog 93 [aC a,aC b] (.bool (decide (a=b))):=by
 unfold Cn.size at ha
 refine zo hty Tryz.func93 rfl rfl rfl fun w0=>?_
 repeat'(first|refine zL rfl (zhi _ _ (by omega)) rfl (fun _=>?_) (fun _=>?_)|refine zL rfl (zcZ _ _ (by omega)) rfl (fun _=>?_) (fun _=>?_)|refine zL rfl (zjD _ _ (by omega)) rfl (fun _=>?_) (fun _=>?_)|refine WL_p hty rfl rfl ?_|refine zh ?_|refine zi ?_|refine za ?_|refine zg ?_|refine zx rfl rfl ?_|refine zq rfl rfl rfl ?_|refine zb rfl ?_|refine zj rfl rfl rfl rfl (fun _=>?_) (fun _=>?_))
 all_goals(cases a;cases b;simp_all)
def zBl:Bl:=⟨[],[],0⟩
theorem Sr.ext{a b:Sr}(h1:a.idx=b.idx)(h2:a.level=b.level)(h3:a.dec=b.dec)(h4:a.decT=b.decT):a=b:=by cases a;cases b;simp_all
set_option maxHeartbeats 4000000 in
theorem ziy(a b:Bl)(ha:a.size≤1048576):FC Tryz.prog 54 [aB a,aB b] (.bool (decide (a=b))):=by
 have ha':=ha
 unfold Bl.size at ha
 have hsl:=zaa a.sorts
 have hcl:=zak a.cons
 refine zo hty Tryz.func54 rfl rfl rfl fun w0=>?_
 repeat'(first|refine WL_p hty rfl rfl ?_|refine zh ?_|refine zi ?_|refine za ?_|refine zf ?_|refine zxg ?_|refine zd rfl ?_|refine zbZ rfl ?_|refine zg ?_|refine zx rfl rfl ?_|refine zot rfl rfl rfl ?_|refine zb rfl ?_|refine zj rfl rfl rfl rfl (fun _=>?_) (fun _=>?_))
 ·rename_i h
  have h:((zY a.sorts).length:Int)≠((zY b.sorts).length:Int):=h
  exact(decide_eq_false fun q=>h (by rw[q])).symm
 ·rename_i h1 h
  have h:((rsC a.cons).length:Int)≠((rsC b.cons).length:Int):=h
  exact(decide_eq_false fun q=>h (by rw[q])).symm
 ·rename_i h1 h2 h
  have h:a.elim≠b.elim:=h
  exact(decide_eq_false fun q=>h (by rw[q])).symm
 rename_i h1 h2 h3
 have h1:a.sorts.length=b.sorts.length:=by
  have:=Decidable.not_not.1 (show ¬((zY a.sorts).length:Int)≠((zY b.sorts).length:Int)from h1)
  rw[zQ,zQ]at this;omega
 have h2:a.cons.length=b.cons.length:=by
  have:=Decidable.not_not.1 (show ¬((rsC a.cons).length:Int)≠((rsC b.cons).length:Int)from h2)
  rw[zZ,zZ]at this;omega
 have h3:a.elim=b.elim:=Decidable.not_not.1 h3
 refine zW a.sorts.length (fun j=>a.sorts.take j=b.sorts.take j) (fun j=>⟨envOf [(2,.ptr 2 0),(3,.ptr 3 0),(5,.int .i64 (j:Nat))],bkOf [(2,.box (cB a)),(3,.box (cB b))]⟩) (zfY ⟨zz rfl rfl,zz rfl rfl,zz rfl rfl,trivial⟩ ⟨zw rfl rfl,zw rfl rfl,trivial⟩) rfl ?_
 intro j hj hI
 repeat'(first|refine WL_p hty rfl rfl ?_|refine zi ?_|refine za ?_)
 refine zj rfl rfl rfl rfl (fun hc=>?_) (fun hc=>?_)
 ·have hlt:j <a.sorts.length:=by rw[zQ]at hc;omega
  obtain⟨s,hs,hms⟩:=zA hlt
  obtain⟨u,hu,_⟩:=zA (h1▸hlt)
  have hss:=zat hms
  unfold Sr.size at hss
  have rs:=zaK hs
  have ru:=zaK hu
  have k1:=zjD s.idx u.idx (by omega)
  have k2:=zcZ s.decT u.decT (by omega)
  have hbad:s≠u→decide (a=b)=false:=fun q=>decide_eq_false fun e=>q (by
   rw[e]at hs;rw[hs]at hu;exact Option.some.inj hu)
  have hgood:s=u→j <a.sorts.length∧a.sorts.take (j+1)=b.sorts.take (j+1):=fun he=>⟨hlt,by rw[List.take_add_one,List.take_add_one,hI,hs,hu,he]⟩
  have hfin:(AV.int .i64 (IntKind.i64.wrap ((j:Nat)+1)))=.int .i64 ((j+1:Nat):Int):=congrArg (AV.int .i64) ((zy (by omega) (by omega)).trans (by omega))
  obtain⟨si,sl,sd,st⟩:=s
  obtain⟨ui,ul,ud,ut⟩:=u
  simp only at k1 k2
  cases sd <;>cases ud
  all_goals
   repeat'(first|(refine zD (id:=6) zBM rfl (by kernel_rfl) ?_)|refine zL rfl k1 rfl (fun _=>?_) (fun _=>?_)|refine zL rfl k2 rfl (fun _=>?_) (fun _=>?_)|refine WL_m rfl (zvf zsj rfl rfl rfl) ?_|refine zu (.inl ⟨rfl,zI hty rfl rfl⟩) ?_|refine zu (.inl ⟨rfl,zm hty rfl rfl rfl (by assumption) rfl⟩) ?_|refine zS ⟨by kernel_rfl,?_⟩|refine WL_p hty rfl rfl ?_|refine zh ?_|refine zi ?_|refine za ?_|refine zf ?_|refine zxg ?_|refine zd rfl ?_|refine zbZ rfl ?_|refine zg ?_|refine zx rfl rfl ?_|refine zot rfl rfl rfl ?_|refine zb rfl ?_|refine zj rfl rfl rfl rfl (fun _=>?_) (fun _=>?_))
   all_goals first
    |(refine(hbad fun e=>?_).symm
      have e1:si=ui:=congrArg Sr.idx e
      have e2:sl=ul:=congrArg Sr.level e
      have e4:st=ut:=congrArg Sr.decT e
      simp_all
      done)
    |(refine(hbad fun e=>?_).symm;exact Bool.noConfusion (congrArg Sr.dec e))
    |(refine⟨hlt,(hgood ?_).2,(zfY ⟨zz rfl rfl,zz rfl rfl,⟨_,rfl,zO ?_ rfl⟩,trivial⟩ ⟨zw rfl rfl,zw rfl rfl,trivial⟩)⟩
      ·exact Sr.ext (of_decide_eq_true (by assumption)) (Decidable.not_not.1 (by assumption)) rfl (of_decide_eq_true (by assumption))
      ·exact hfin)
 ·obtain rfl:j=a.sorts.length:=by rw[zQ]at hc;omega
  have e1:a.sorts=b.sorts:=by rw[List.take_length,h1,List.take_length]at hI;exact hI
  repeat'(first|refine WL_p hty rfl rfl ?_|refine zh ?_|refine zi ?_|refine za ?_|refine zf ?_|refine zbZ rfl ?_|refine zl ?_)
  refine zW a.cons.length (fun j=>a.cons.take j=b.cons.take j) (fun j=>⟨envOf [(2,.ptr 2 0),(3,.ptr 3 0),(8,.int .i64 (j:Nat))],bkOf [(2,.box (cB a)),(3,.box (cB b))]⟩) (zfY ⟨zz rfl rfl,zz rfl rfl,zz rfl rfl,trivial⟩ ⟨zw rfl rfl,zw rfl rfl,trivial⟩) rfl ?_
  intro j hj hI
  repeat'(first|refine WL_p hty rfl rfl ?_|refine zi ?_|refine za ?_)
  refine zj rfl rfl rfl rfl (fun hc=>?_) (fun hc=>?_)
  ·have hlt:j <a.cons.length:=by rw[zZ]at hc;omega
   obtain⟨s,hs,hms⟩:=zA hlt
   obtain⟨u,hu,_⟩:=zA (h2▸hlt)
   have hss:=zaB hms
   have rs:=zby hs
   have ru:=zby hu
   have k1:=zr4 s u (by omega)
   repeat'(first|(refine zD (id:=12) zBi rfl (by kernel_rfl) ?_)|refine zan rfl k1 rfl (fun _=>?_) (fun _=>?_)|refine zu (.inl ⟨rfl,zI hty rfl rfl⟩) ?_|refine zu (.inl ⟨rfl,zm hty rfl rfl rfl (by assumption) rfl⟩) ?_|refine zS ⟨by kernel_rfl,?_⟩|refine WL_p hty rfl rfl ?_|refine zh ?_|refine zi ?_|refine za ?_|refine zf ?_|refine zxg ?_|refine zd rfl ?_|refine zbZ rfl ?_|refine zg ?_|refine zb rfl ?_)
   all_goals rename_i q
   ·refine⟨hlt,?_,(zfY ⟨zz rfl rfl,zz rfl rfl,⟨_,rfl,zO ?_ rfl⟩,trivial⟩ ⟨zw rfl rfl,zw rfl rfl,trivial⟩)⟩
    ·rw[List.take_add_one,List.take_add_one,hI,hs,hu,of_decide_eq_true q]
    ·exact congrArg (AV.int .i64) ((zy (by omega) (by omega)).trans (by omega))
   ·refine(decide_eq_false fun e=>of_decide_eq_false q ?_).symm
    rw[e]at hs;rw[hs]at hu;exact Option.some.inj hu
  ·obtain rfl:j=a.cons.length:=by rw[zZ]at hc;omega
   have e2:a.cons=b.cons:=by rw[List.take_length,h2,List.take_length]at hI;exact hI
   repeat'(first|refine WL_p hty rfl rfl ?_|refine zh ?_|refine zi ?_|refine za ?_|refine zbZ rfl ?_|refine zl ?_|refine zg ?_|refine zb rfl ?_)
   refine(decide_eq_true ?_).symm
   cases a;cases b
   simp only at e1 e2 h3
   rw[e1,e2,h3]
end Go.Proofs.YtokfbblhjpfjkaaGreat
