/- Positivity: clean terms.; Positivity: clean terms.; Positivity: clean terms.; Po -/
import Derived.Test.YtokfbblhjpfjkaaGreatGG
import Derived.Test.YtokfbblhjpfjkaaGreatGD
import Derived.Test.YtokfbblhjpfjkaaGreatGC
set_option linter.unusedSimpArgs false
set_option linter.unusedVariables false
namespace Go.Proofs.YtokfbblhjpfjkaaGreat
open Go.Aw Go.RowKit
def zBn:List (Nat×List Nat):=[(0,[]),(1,[]),(2,[1]),(3,[]),(4,[1,2,3]),(5,[1,2,3,4]),(6,[1,2,3,4,5]),(7,[0]),(8,[0,1,2,3,4,5,6,7])]
attribute [local irreducible] WL AC WD WE MStep OkOp
structure Pl where
 b:Bl
 base:Int
 args:List Ar
 more:Int
abbrev cP(p:Pl):List AV:=[.lst 6 (zY p.b.sorts) false,.lst 6 (rsC p.b.cons) false,.int .i64 p.b.elim,.int .i64 p.base,.lst 7 (zX p.args) false,.int .i64 p.more]
abbrev aP(p:Pl):AV:=.agg (cP p)
def Pl.inn(p:Pl)(n:Int):Pl:={p with more:=p.more+n}
def zal(args:List Ar)(more:Int)(t:Tm):Int×Bool:=
 if t.kind=1∧more≤t.num∧t.num-more <args.length then((args.length:Int)-1-(t.num-more),match args[((args.length:Int)-1-(t.num-more)).toNat]? with
  |some a=>a.rc
  |none=>false)else(0,false)
theorem zjB(p:Pl)(n:Int)(h: -4194304≤p.more+n∧p.more+n≤8388608):FC Tryz.prog 197 [aP p,.int .i64 n] (aP (p.inn n)):=by
 refine zo hty Tryz.func197 rfl rfl rfl fun w0=>?_
 repeat'(first|refine WL_p hty rfl rfl ?_|refine zh ?_|refine zi ?_|refine za ?_|refine zg ?_)
 refine zH rfl rfl (.of_eq ?_)
 rw[zy (n:=p.more+n) (by omega) (by omega)]
 rfl
set_option maxHeartbeats 4000000 in
theorem zdz(p:Pl)(t:Tm)(hl:p.args.length≤1048576)(hn:0≤t.num∧t.num≤65535)(hm:0≤p.more∧p.more≤8388608):FC Tryz.prog 198 [aP p,aT t] (.tup [.int .i64 (zal p.args p.more t).1,.bool (zal p.args p.more t).2]):=by
 have w1:IntKind.i64.wrap (((zX p.args).length:Int)-1)=(p.args.length:Int)-1:=by rw[zN];exact zy (by omega) (by omega)
 have w2:IntKind.i64.wrap (t.num-p.more)=t.num-p.more:=zy (by omega) (by omega)
 have w3:IntKind.i64.wrap (IntKind.i64.wrap (((zX p.args).length:Int)-1)-IntKind.i64.wrap (t.num-p.more))=(p.args.length:Int)-1-(t.num-p.more):=by rw[w1,w2];exact zy (by omega) (by omega)
 by_cases hg:t.kind=1∧p.more≤t.num∧t.num-p.more <p.args.length
 ·obtain⟨a,ha,_⟩:=zA (show((p.args.length:Int)-1-(t.num-p.more)).toNat <p.args.length by omega)
  have hgi:zal p.args p.more t=((p.args.length:Int)-1-(t.num-p.more),a.rc):=by unfold zal;rw[if_pos hg,ha]
  have ra:=za6 ha
  rw[←w3]at ra
  obtain⟨g1,g2,g3⟩:=hg
  have n2: ¬t.num <p.more:=by omega
  have n3: ¬IntKind.i64.wrap (IntKind.i64.wrap (((zX p.args).length:Int)-1)-IntKind.i64.wrap (t.num-p.more)) <0:=by rw[w3];omega
  have n0:0≤IntKind.i64.wrap (IntKind.i64.wrap (((zX p.args).length:Int)-1)-IntKind.i64.wrap (t.num-p.more)):=by omega
  rw[hgi, ←w3]
  refine zo hty Tryz.func198 rfl rfl rfl fun w0=>?_
  repeat'(first|exact absurd g1 ‹_›|exact absurd (by assumption) n2|exact absurd (by assumption) n3|(refine zab (zfY (l:=[(2,_),(3,_),(6,_)]) (bl:=[(2,_),(3,_)]) ⟨zz rfl rfl,zz rfl rfl,zz rfl rfl,trivial⟩ ⟨zw rfl rfl,zw rfl rfl,trivial⟩) ?_;refine zD (id:=4) zBn rfl (by kernel_rfl) ?_)|refine zu (.inl ⟨rfl,zaq hty rfl rfl rfl n0 ra rfl⟩) ?_|refine zu (.inl ⟨rfl,zI hty rfl rfl⟩) ?_|refine zS ⟨by kernel_rfl,?_⟩|refine WL_p hty rfl rfl ?_|refine zh ?_|refine zi ?_|refine za ?_|refine zxg ?_|refine zbZ rfl ?_|refine zg ?_|refine zx rfl rfl ?_|refine zj rfl rfl rfl rfl (fun _=>?_) (fun _=>?_))
  exact zH rfl rfl (.refl _)
 ·have hgi:zal p.args p.more t=(0,false):=by unfold zal;rw[if_neg hg]
  rw[hgi]
  refine zo hty Tryz.func198 rfl rfl rfl fun w0=>?_
  repeat'(first|(refine absurd ?_ hg;refine⟨Decidable.not_not.1 (by assumption),by omega,?_⟩;rw[w3]at*;omega)|refine WL_p hty rfl rfl ?_|refine zh ?_|refine zi ?_|refine za ?_|refine zd rfl ?_|refine zg ?_|refine zx rfl rfl ?_|refine zot rfl rfl rfl ?_|refine zj rfl rfl rfl rfl (fun _=>?_) (fun _=>?_))
  all_goals exact zH rfl rfl (.refl _)
end Go.Proofs.YtokfbblhjpfjkaaGreat
namespace Go.Proofs.YtokfbblhjpfjkaaGreat
open Go.Aw Go.RowKit
def zAC:List (Nat×List Nat):=[(0,[]),(1,[0]),(2,[0,1]),(3,[0,1]),(4,[0,1]),(5,[0,1,3,4]),(6,[0,1,2,3,4,5]),(7,[0,1,2,3,4,5,6]),(8,[0,1,2,3,4,5,6,7]),(9,[0,1,2,3,4,5,6,7,8]),(10,[0,1,2,3,4,5,6,7,8]),(11,[0,1,2,3,4,5,6,7,8,9,10]),(12,[0,1,2,3,4,5,6,7,8,9,10,11]),(13,[0,1,2,3,4,5,6,7,8,9,10,11,12])]
attribute [local irreducible] WL AC WD WE MStep OkOp
theorem zqw(P:Tm→Prop)(hP: ∀ t k,P t→k∈t.kids→P k): ∀ (n:Nat) (t:Tm) (acc:List Tm),P t→(∀ a,a∈acc→P a)→P (spN n t acc).1∧ ∀ a,a∈(spN n t acc).2→P a
 |0,t,acc,h,ha=>⟨h,ha⟩
 |n+1,t,acc,h,ha=>by
  by_cases h2:zbC t 6=true
  ·obtain⟨f,a,hk⟩:=zb0 h2
   rw[zcn h2 hk]
   refine zqw P hP n f _ (hP t f h (by rw[hk];exact List.mem_cons_self)) (fun x hx=>?_)
   rcases List.mem_append.1 hx with q|q
   ·exact ha x q
   ·rw[List.mem_singleton.1 q];exact hP t a h (by rw[hk];simp)
  ·have h2:zbC t 6=false:=by simpa using h2
   rw[zc5 h2];exact⟨h,ha⟩
theorem zk4: ∀ (n:Nat) (t:Tm) (acc:List Tm),sizes (spN n t acc).2+(spN n t acc).1.size≤sizes acc+t.size
 |0,t,acc=>Nat.le_refl _
 |n+1,t,acc=>by
  by_cases h2:zbC t 6=true
  ·obtain⟨f,a,hk⟩:=zb0 h2
   have hs:=t.size_eq
   rw[hk]at hs
   simp only[sizes]at hs
   have:=zk4 n f (acc++[a])
   rw[zcn h2 hk,zax]at*
   simp only[sizes]at this
   omega
  ·have h2:zbC t 6=false:=by simpa using h2
   rw[zc5 h2];exact Nat.le_refl _
theorem zkG(l:List Tm):sizes l.reverse=sizes l:=by
 induction l with
 |nil=>rfl
 |cons a l ih=>rw[List.reverse_cons,zax,ih];simp only[sizes];omega
theorem zbb(t:Tm):sizes (zF t).2+(zF t).1.size≤t.size:=by
 have:=zk4 t.size t []
 unfold zF
 rw[zkG]
 simpa[sizes]using this
theorem zdG(P:Tm→Prop)(hP: ∀ t k,P t→k∈t.kids→P k){t:Tm}(h:P t):P (zF t).1∧ ∀ a,a∈(zF t).2→P a:=by
 have:=zqw P hP t.size t [] h (fun a ha=>by cases ha)
 exact⟨this.1,fun a ha=>this.2 a (by unfold zF at ha;exact List.mem_reverse.1 ha)⟩
def Sub(D:Nat)(t:Tm):Prop:=formedT t=true∧t.depth≤D
theorem Sub.kid{D:Nat}(t k:Tm)(h:Sub D t)(hk:k∈t.kids):Sub D k:=⟨zao h.1 hk,by
 have:=zaU hk
 have:=t.depth_eq
 have:=h.2
 omega⟩
theorem zCw{t:Tm}(h:formedT t=true):0≤t.num∧t.num≤65535:=by
 rw[za9]at h
 simp only[Bool.and_eq_true,Bool.or_eq_true,decide_eq_true_eq,inR]at h
 obtain⟨⟨_,h2,h3⟩,_⟩:=h
 rcases h2 with h2|h2
 ·rcases h3 with h3|h3
  ·exact absurd h3 h2
  ·omega
 ·exact h2
theorem zp2: ∀ (l:List (Int×Nat×(Int→Int))) (n:Int),0≤(ofL l n).2
 |[],_=>Int.le_refl _
 |(k,m,f)::l,n=>by
  simp only[ofL]
  split
  ·assumption
  ·exact zp2 l n
theorem zl5{α:Type}{p:α→Bool}: ∀ {l:List α},0≤idxF p l→idxF p l <l.length
 |[],h=>by simp[idxF]at h
 |a::l,h=>by
  simp only[idxF]at h⊢
  by_cases hp:p a=true
  ·rw[if_pos hp,List.length_cons];omega
  ·rw[if_neg hp]at h⊢
   by_cases h2:idxF p l <0
   ·rw[if_pos h2]at h;omega
   ·rw[if_neg h2,List.length_cons]
    have:=zl5 (p:=p) (l:=l) (by omega)
    omega
theorem zs4: ∀ (l:List (Int×Nat×(Int→Int))) (n:Int),(ofL l n).1≠0→ ∃ r∈l,r.1=(ofL l n).1∧(ofL l n).2 <r.2.1
 |[],_,h=>absurd rfl h
 |(k,m,f)::l,n,h=>by
  simp only[ofL]at h⊢
  by_cases hi:0≤idxF (fun i:Nat=>decide (f i=n)) (List.range m)
  ·rw[if_pos hi]at h⊢
   have hlt:=zl5 hi
   rw[List.length_range]at hlt
   exact⟨(k,m,f),List.mem_cons_self,rfl,hlt⟩
  ·rw[if_neg hi]at h⊢
   obtain⟨r,h1,h2⟩:=zs4 l n h
   exact⟨r,List.mem_cons_of_mem _ h1,h2⟩
theorem zfy{b:Bl}{base n:Int}:0≤(ofB b base n).2∧((ofB b base n).1=4→(ofB b base n).2.toNat <b.sorts.length)∧((ofB b base n).1=5→(ofB b base n).2.toNat <b.cons.length):=by
 have hz:0≤((0:Int),(0:Int)).2∧(((0:Int),(0:Int)).1=4→((0:Int),(0:Int)).2.toNat <b.sorts.length)∧(((0:Int),(0:Int)).1=5→((0:Int),(0:Int)).2.toNat <b.cons.length):=⟨Int.le_refl _,fun h=>absurd h (by decide),fun h=>absurd h (by decide)⟩
 unfold ofB
 split
 ·exact hz
 ·split
  ·exact hz
  ·split
   ·exact hz
   ·split
    ·exact hz
    ·refine⟨zp2 _ _,fun h=>?_,fun h=>?_⟩
     all_goals
      obtain⟨r,hr,h1,h2⟩:=zs4 (zej b base) n (by rw[h];decide)
      rw[h]at h1
      have hge:=zp2 (zej b base) n
      simp only[zej,List.mem_cons,List.not_mem_nil,or_false]at hr
      rcases hr with rfl|rfl|rfl|rfl
      all_goals first
       |(exfalso;revert h1;decide)
       |(simp only at h2;omega)
def zba(g:Int→Tm→Bool)(m k:Int):Int→List Tm→Bool
 |_,[]=>true
 |i,t::l=>g (m+zU k i) t&&zba g m k (i+1) l
def zbP(g:Tm→Bool)(p:Pl)(t:Tm):Bool:=
 decide ((zF t).1.kind=3)&&(decide ((ofB p.b p.base (zF t).1.num).1=4)&&(decide ((zF t).2.length=idxN p.b (ofB p.b p.base (zF t).1.num).2+1)&&
  ((zal p.args p.more (zF ((zF t).2.getD ((zF t).2.length-1) zT)).1).2&&(((zF t).2.take ((zF t).2.length-1)).all g&&(zF ((zF t).2.getD ((zF t).2.length-1) zT)).2.all g))))
def zaI(b:Bl)(base:Int)(args:List Ar):Nat→Int→Tm→Bool
 |0,_,_=>true
 |f+1,m,t=>if t.kind=1 then !(zal args m t).2 else if t.kind=3 then decide ((ofB b base t.num).1=0)else
  if t.kind=6∧zbP (zaI b base args f m) ⟨b,base,args,m⟩ t=true then true else zba (zaI b base args f) m t.kind 0 t.kids
theorem zdU(g:Int→Tm→Bool)(m k:Int)(r:List Tm): ∀ (l:List Tm) (i:Int),zba g m k i (l++r)=(zba g m k i l&&zba g m k (i+l.length) r)
 |[],i=>by simp[zba]
 |t::l,i=>by
  simp only[List.cons_append,zba,zdU g m k r l,List.length_cons,Bool.and_assoc]
  rw[show i+1+(l.length:Int)=i+((l.length+1:Nat):Int) by omega]
theorem zen(g:Int→Tm→Bool)(m k:Int){l:List Tm}{j:Nat}{x:Tm}(h:l[j]? =some x):zba g m k 0 l=(zba g m k 0 (l.take j)&&(g (m+zU k (j:Nat)) x&&zba g m k ((j:Nat)+1) (l.drop (j+1)))):=by
 have hlt:j <l.length:=(List.getElem?_eq_some_iff.1 h).1
 conv=>lhs;rw[←List.take_append_drop j l,zdU,List.drop_eq_getElem_cons hlt,zba]
 have h1:(l.take j).length=j:=by rw[List.length_take];omega
 have h2:l[j]=x:=by rw[List.getElem?_eq_getElem hlt]at h;exact Option.some.inj h
 rw[h1,h2,Int.zero_add]
theorem ze0(g:Int→Tm→Bool)(m k:Int){l:List Tm}{j:Nat}{x:Tm}(h:l[j]? =some x):zba g m k 0 (l.take (j+1))=(zba g m k 0 (l.take j)&&g (m+zU k (j:Nat)) x):=by
 have hlt:j <l.length:=(List.getElem?_eq_some_iff.1 h).1
 have h1:(l.take j).length=j:=by rw[List.length_take];omega
 rw[List.take_add_one,h,Option.toList_some,zdU,h1,Int.zero_add]
 simp[zba]
theorem zo4(p:Pl)(t:Tm)(c:Bool)(h:FC Tryz.prog 150 [aP p,aT t] (.bool c)):FC Tryz.prog 246 [aT t,.eptr (cP p) 0] (.bool (!c)):=by
 refine zo hty Tryz.func246 rfl rfl rfl fun w0=>?_
 repeat'(first|refine zL rfl h rfl (fun _=>?_) (fun _=>?_)|refine WL_p hty rfl rfl ?_|refine zh ?_|refine zi ?_|refine za ?_|refine zg ?_|refine zb rfl ?_)
 all_goals simp[*]
theorem zhX(p:Pl)(l:List Tm)(g:Tm→Bool)(hl:sizes l≤1048576)(h: ∀ t,t∈l→FC Tryz.prog 150 [aP p,aT t] (.bool (g t))):FC Tryz.prog 231 [aP p,sT l] (.bool (l.all g)):=by
 have hcf:=zcI 246 [.eptr (cP p) 0] rfl (fun t=> !g t) l (by omega) (fun t ht=>zo4 p t (g t) (h t ht))
 refine zo hty Tryz.func231 rfl rfl rfl fun w0=>?_
 repeat'(first|refine zbd (z6 2 rfl rfl) ?_|refine WL_m rfl (zbo rfl rfl rfl) ?_|refine zL rfl hcf rfl (fun _=>?_) (fun _=>?_)|refine WL_p hty rfl rfl ?_|refine zh ?_|refine zi ?_|refine za ?_|refine zg ?_|refine zb rfl ?_)
 all_goals(rename_i hq;rw[zbD,hq])
set_option maxRecDepth 4000 in
set_option maxHeartbeats 4000000 in
theorem zmf(p:Pl)(t:Tm)(g:Tm→Bool)(hb:p.b.size≤1048576)(hl:p.args.length≤1048576)(hm:0≤p.more∧p.more≤8388608)(hs:t.size≤1048576)(hfm:formedT t=true)
 (h: ∀ a:Tm,a.size <t.size→formedT a=true→a.depth≤t.depth→FC Tryz.prog 150 [aP p,aT a] (.bool (g a))):FC Tryz.prog 200 [aP p,aT t] (.bool (zbP g p t)):=by
 have hsp:=zcR t hs
 have hsz:=zbb t
 obtain⟨hi1,hi2⟩:=zdG (Sub t.depth) Sub.kid (t:=t) ⟨hfm,Nat.le_refl _⟩
 have hhp:=(zF t).1.size_pos
 obtain⟨f,hf⟩: ∃ f,f=(zF t).1:=⟨_,rfl⟩
 obtain⟨l,hll⟩: ∃ l,l=(zF t).2:=⟨_,rfl⟩
 have hd:zbP g p t=(decide (f.kind=3)&&(decide ((ofB p.b p.base f.num).1=4)&&(decide (l.length=idxN p.b (ofB p.b p.base f.num).2+1)&&
  ((zal p.args p.more (zF (l.getD (l.length-1) zT)).1).2&&((l.take (l.length-1)).all g&&(zF (l.getD (l.length-1) zT)).2.all g))))):=by rw[hf,hll];rfl
 rw[hd]
 rw[←hf, ←hll]at hsp
 rw[←hf, ←hll]at hsz
 rw[←hf]at hi1 hhp
 rw[←hll]at hi2
 clear hd hf hll
 have hnum:=zCw hi1.1
 have hll:=zM l
 by_cases k3:f.kind=3
 case neg=>
  refine zo hty Tryz.func200 rfl rfl rfl fun w0=>?_
  repeat'(first|exact absurd (show f.kind≠3 from k3) ‹_›|refine zv 0 rfl hsp rfl rfl rfl ?_|refine WL_p hty rfl rfl ?_|refine zh ?_|refine zi ?_|refine za ?_|refine zd rfl ?_|refine zg ?_|refine zb rfl ?_|refine zj rfl rfl rfl rfl (fun _=>?_) (fun _=>?_))
  rw[decide_eq_false k3];rfl
 have hof:=zjd p.b p.base f.num hb (by omega)
 obtain⟨q1,q2,_⟩:=zfy (b:=p.b) (base:=p.base) (n:=f.num)
 obtain⟨⟨kd,wh⟩,hK⟩: ∃ K,K=ofB p.b p.base f.num:=⟨_,rfl⟩
 rw[←hK]at hof q1 q2⊢
 simp only at hof q1 q2⊢
 rw[decide_eq_true k3,Bool.true_and]
 by_cases k4:kd=4
 case neg=>
  refine zo hty Tryz.func200 rfl rfl rfl fun w0=>?_
  repeat'(first|exact absurd k3 ‹_›|exact absurd (show kd≠4 from k4) ‹_›|refine zv 0 rfl hsp rfl rfl rfl ?_|refine zv 0 rfl hof rfl rfl rfl ?_|refine WL_p hty rfl rfl ?_|refine zh ?_|refine zi ?_|refine za ?_|refine zxg ?_|refine zd rfl ?_|refine zbZ rfl ?_|refine zg ?_|refine zot rfl rfl rfl ?_|refine zb rfl ?_|refine zj rfl rfl rfl rfl (fun _=>?_) (fun _=>?_))
  rw[decide_eq_false k4];rfl
 rw[decide_eq_true k4,Bool.true_and]
 obtain⟨s,hss,hsm⟩:=zA (q2 k4)
 have rs:=zaK hss
 have hix:idxN p.b wh=s.idx.length:=by unfold idxN;rw[hss]
 have hsb:=zat hsm
 have hsl:s.idx.length≤1048576:=by
  have h1:=zae s.idx
  have h2:s.size=zaH s.idx+s.decT.size:=rfl
  have h3:p.b.size=zbh p.b.sorts+zbg p.b.cons:=rfl
  omega
 have w1:IntKind.i64.wrap (((zX s.idx).length:Int)+1)=(s.idx.length:Int)+1:=by rw[zN];exact zy (by omega) (by omega)
 by_cases k5:l.length=s.idx.length+1
 case neg=>
  refine zo hty Tryz.func200 rfl rfl rfl fun w0=>?_
  repeat'(first|exact absurd k3 ‹_›|exact absurd k4 ‹_›|(refine absurd ?_ k5;have hq:=Decidable.not_not.1 (show ¬((rsT l).length:Int)≠IntKind.i64.wrap (((zX s.idx).length:Int)+1) by assumption);rw[w1,zeb]at hq;omega)|refine zv 0 rfl hsp rfl rfl rfl ?_|refine zv 0 rfl hof rfl rfl rfl ?_|refine WL_m rfl (zaq hty rfl rfl rfl q1 rs rfl) ?_|refine WL_p hty rfl rfl ?_|refine zh ?_|refine zi ?_|refine za ?_|refine zxg ?_|refine zd rfl ?_|refine zbZ rfl ?_|refine zg ?_|refine zx rfl rfl ?_|refine zb rfl ?_|refine zj rfl rfl rfl rfl (fun _=>?_) (fun _=>?_))
  rw[hix,decide_eq_false k5];rfl
 rw[hix,decide_eq_true k5,Bool.true_and]
 have n5: ¬((rsT l).length:Int)≠IntKind.i64.wrap (((zX s.idx).length:Int)+1):=by rw[w1,zeb];omega
 have w2:IntKind.i64.wrap (((rsT l).length:Int)-1)=((l.length-1:Nat):Int):=by rw[zeb];exact(zy (by omega) (by omega)).trans (by omega)
 obtain⟨la,hla,hlm⟩:=zA (show l.length-1 <l.length by omega)
 have rla:=zac hla
 have hgd:l.getD (l.length-1) zT=la:=by rw[List.getD_eq_getElem?_getD,hla];rfl
 have hlas:=zK hlm
 have hsp2:=zcR la (by omega)
 have hsz2:=zbb la
 obtain⟨hj1,hj2⟩:=zdG (Sub t.depth) Sub.kid (t:=la) (hi2 la hlm)
 have hgs:=zdz p (zF la).1 hl (zCw hj1.1) hm
 have hp2:=zhX p (zF la).2 g (by omega) (fun a ha=>h a (by have:=zK ha;omega) (hj2 a ha).1 (hj2 a ha).2)
 have htk:=zb1 l (l.length-1)
 have hp1:=zhX p (l.take (l.length-1)) g (by omega) (fun a ha=>h a (by have:=zK (List.mem_of_mem_take ha);omega) (hi2 a (List.mem_of_mem_take ha)).1 (hi2 a (List.mem_of_mem_take ha)).2)
 have hrt:rsT (l.take (l.length-1))=((rsT l).take (l.length-1)).drop 0:=by rw[List.drop_zero,zbq,zbq,List.map_take]
 rw[show sT (l.take (l.length-1))=.lst 3 (((rsT l).take (l.length-1)).drop 0) false from congrArg (fun r=>AV.lst 3 r false) hrt]at hp1
 have h0:0≤IntKind.i64.wrap (((rsT l).length:Int)-1):=by rw[w2];exact Int.natCast_nonneg _
 have rlw:(rsT l)[(IntKind.i64.wrap (((rsT l).length:Int)-1)).toNat]? =some (cT la):=by rw[w2];exact rla
 rw[hgd]
 obtain⟨⟨gi,gb⟩,hG⟩: ∃ G,G=zal p.args p.more (zF la).1:=⟨_,rfl⟩
 rw[←hG]at hgs⊢
 simp only at hgs⊢
 refine zo hty Tryz.func200 rfl rfl rfl fun w0=>?_
 cases gb
 all_goals
  repeat'(first|exact absurd k3 ‹_›|exact absurd k4 ‹_›|exact absurd (by assumption) n5|refine zv 0 rfl hsp rfl rfl rfl ?_|refine zv 0 rfl hof rfl rfl rfl ?_|refine zv 0 rfl hsp2 rfl rfl rfl ?_|refine zv 0 rfl hgs rfl rfl rfl ?_|(refine zab (zfY (l:=[(2,_),(6,_),(9,_),(11,_),(13,_)]) (bl:=[(2,_)]) ⟨zz rfl rfl,zz rfl rfl,zz rfl rfl,zz rfl rfl,zz rfl rfl,trivial⟩ ⟨zw rfl rfl,trivial⟩) ?_;refine zD (id:=10) zAC rfl (by kernel_rfl) ?_)|refine zbc rfl (zbO hty 0 (l.length-1) rfl rfl rfl ⟨_,_,rfl,w2⟩ (Nat.zero_le _) (by rw[zeb];omega) rfl) ?_|refine zan rfl hp1 rfl (fun _=>?_) (fun _=>?_)|refine zan rfl hp2 rfl (fun _=>?_) (fun _=>?_)|refine WL_m rfl (zaq hty rfl rfl rfl q1 rs rfl) ?_|refine WL_m rfl (zaq hty rfl rfl rfl h0 rlw rfl) ?_|refine zu (.inl ⟨rfl,zI hty rfl rfl⟩) ?_|refine zaG rfl rfl ?_|refine zau rfl rfl rfl ?_|refine zS ⟨by kernel_rfl,?_⟩|refine WL_p hty rfl rfl ?_|refine zh ?_|refine zi ?_|refine za ?_|refine zxg ?_|refine zbZ rfl ?_|refine zg ?_|refine zx rfl rfl ?_|refine zb rfl ?_|refine zj rfl rfl rfl rfl (fun _=>?_) (fun _=>?_))
  all_goals first
   |rfl
   |(rename_i x1 x2;rw[x1,x2];rfl)
   |(rename_i x1;rw[x1];rfl)
end Go.Proofs.YtokfbblhjpfjkaaGreat
namespace Go.Proofs.YtokfbblhjpfjkaaGreat
open Go.Aw Go.RowKit
def zAM:List (Nat×List Nat):=[(0,[]),(1,[]),(2,[1]),(3,[]),(4,[1,2,3]),(5,[0,1,2,3,4]),(6,[]),(7,[0,1,2,3,4,5,6]),(8,[0,1,2,3,4,5,6,7])]
attribute [local irreducible] WL AC WD WE MStep OkOp
set_option maxRecDepth 4000 in
set_option maxHeartbeats 4000000 in
theorem zrM(b:Bl)(base:Int)(args:List Ar)(hb:b.size≤1048576)(hl:args.length≤1048576): ∀ n,n≤1048576→ ∀ (t:Tm) (m:Int),t.size≤n→formedT t=true→0≤m→m+t.depth≤8388608→
 FC Tryz.prog 150 [aP ⟨b,base,args,m⟩,aT t] (.bool (zaI b base args n m t)):=by
 intro n
 induction n with
 |zero=>intro hn t m ht;have:=t.size_pos;omega
 |succ n ih=>
 intro hn t m ht hfm hm0 hm
 have ih:=ih (by omega)
 have hs:=t.size_eq
 have hdp:=t.depth_eq
 have hlen:=zM t.kids
 have hnum:=zCw hfm
 by_cases k1:t.kind=1
 ·have hc:zaI b base args (n+1) m t= !(zal args m t).2:=by rw[zaI,if_pos k1]
  have hg:=zdz ⟨b,base,args,m⟩ t hl hnum ⟨hm0,by show m≤8388608;omega⟩
  rw[hc]
  obtain⟨⟨gi,gb⟩,hG⟩: ∃ G,G=zal args m t:=⟨_,rfl⟩
  simp only at hg
  rw[←hG]at hg⊢
  simp only at hg⊢
  refine zo hty Tryz.func150 rfl rfl rfl fun w0=>?_
  repeat'(first|exact absurd k1 ‹_›|refine zv 0 rfl hg rfl rfl rfl ?_|refine WL_p hty rfl rfl ?_|refine zh ?_|refine zi ?_|refine za ?_|refine zf ?_|refine zd rfl ?_|refine zg ?_|refine zb rfl ?_|refine zj rfl rfl rfl rfl (fun _=>?_) (fun _=>?_))
  rfl
 by_cases k3:t.kind=3
 ·have hc:zaI b base args (n+1) m t=decide ((ofB b base t.num).1=0):=by rw[zaI,if_neg k1,if_pos k3]
  have hof:=zjd b base t.num hb (by omega)
  rw[hc]
  refine zo hty Tryz.func150 rfl rfl rfl fun w0=>?_
  repeat'(first|exact absurd (by assumption) k1|exact absurd k3 ‹_›|refine zv 0 rfl hof rfl rfl rfl ?_|refine WL_p hty rfl rfl ?_|refine zh ?_|refine zi ?_|refine za ?_|refine zf ?_|refine zd rfl ?_|refine zbZ rfl ?_|refine zg ?_|refine zb rfl ?_|refine zj rfl rfl rfl rfl (fun _=>?_) (fun _=>?_))
  all_goals simp[*]
 have hcc:zaI b base args (n+1) m t=if t.kind=6∧zbP (zaI b base args n m) ⟨b,base,args,m⟩ t=true then true else zba (zaI b base args n) m t.kind 0 t.kids:=by rw[zaI,if_neg k1,if_neg k3]
 have hde:=zmf ⟨b,base,args,m⟩ t (zaI b base args n m) hb hl ⟨hm0,by show m≤8388608;omega⟩ (by omega) hfm (fun a h1 h2 h3=>ih a m (by omega) h2 hm0 (by omega))
 by_cases kd:t.kind=6∧zbP (zaI b base args n m) ⟨b,base,args,m⟩ t=true
 ·rw[hcc,if_pos kd]
  rw[kd.2]at hde
  have k6:=kd.1
  refine zo hty Tryz.func150 rfl rfl rfl fun w0=>?_
  repeat'(first|exact absurd (by assumption) k1|exact absurd (by assumption) k3|exact absurd k6 ‹_›|refine zv 0 rfl hde rfl rfl rfl ?_|refine WL_p hty rfl rfl ?_|refine zh ?_|refine zi ?_|refine za ?_|refine zf ?_|refine zd rfl ?_|refine zbZ rfl ?_|refine zg ?_|refine zb rfl ?_|refine zj rfl rfl rfl rfl (fun _=>?_) (fun _=>?_))
  rfl
 rw[hcc,if_neg kd]
 have hde6:t.kind=6→FC Tryz.prog 200 [aP ⟨b,base,args,m⟩,aT t] (.bool false):=fun k6=>by
  have:zbP (zaI b base args n m) ⟨b,base,args,m⟩ t=false:=Bool.eq_false_iff.2 fun q=>kd ⟨k6,q⟩
  rwa[this]at hde
 refine zo hty Tryz.func150 rfl rfl rfl fun w0=>?_
 repeat'(first|exact absurd (by assumption) k1|exact absurd (by assumption) k3|refine zv 0 rfl (hde6 (by assumption)) rfl rfl rfl ?_|refine WL_p hty rfl rfl ?_|refine zh ?_|refine zi ?_|refine za ?_|refine zf ?_|refine zxg ?_|refine zd rfl ?_|refine zbZ rfl ?_|refine zj rfl rfl rfl rfl (fun _=>?_) (fun _=>?_))
 all_goals
  refine zW t.kids.length (fun j=>zba (zaI b base args n) m t.kind 0 (t.kids.take j)=true) (fun j=>⟨envOf [(2,.ptr 2 0),(3,.ptr 3 0),(43,sT t.kids),(44,.int .i64 ((rsT t.kids).length:Nat)),(45,.int .i64 (j:Nat))],bkOf [(2,.box (cP ⟨b,base,args,m⟩)),(3,.box (cT t))]⟩)
   (zfY ⟨zz rfl rfl,zz rfl rfl,zz rfl rfl,zz rfl rfl,zz rfl rfl,trivial⟩ ⟨zw rfl rfl,zw rfl rfl,trivial⟩) rfl ?_
  intro j hj hI
  repeat'(first|refine zi ?_|refine za ?_)
  refine zj rfl rfl rfl rfl (fun hc=>?_) (fun hc=>?_)
  ·have hlt:j <t.kids.length:=by rw[zeb]at hc;omega
   obtain⟨k,hk,hmem⟩:=zA hlt
   have hks:=zK hmem
   have hkd:=zaU hmem
   have rk:=zac hk
   have hbi:0≤zU t.kind (j:Nat)∧zU t.kind (j:Nat)≤1:=by unfold zU;split <;>omega
   have hin:=zjB ⟨b,base,args,m⟩ (zU t.kind (j:Nat)) ⟨by show -4194304≤m+_;omega,by show m+_≤8388608;omega⟩
   have hkc:=ih k (m+zU t.kind (j:Nat)) (by omega) (zao hfm hmem) (by omega) (by omega)
   repeat'(first|refine zD (id:=14) zAM rfl (by kernel_rfl) ?_|refine zad 0 rfl (zcB _ _) rfl rfl rfl ?_|refine zad 0 rfl hin rfl rfl rfl ?_|refine zan rfl hkc rfl (fun _=>?_) (fun _=>?_)|refine zu (.inl ⟨rfl,zI hty rfl rfl⟩) ?_|refine zS ⟨by kernel_rfl,?_⟩|refine WL_p hty rfl rfl ?_|refine zh ?_|refine zi ?_|refine za ?_|refine zf ?_|refine zxg ?_|refine zd rfl ?_|refine zbZ rfl ?_|refine zg ?_|refine WL_m rfl (zm hty rfl rfl rfl (by assumption) rfl) ?_|refine zb rfl ?_)
   all_goals rename_i hq
   ·refine⟨hlt,by rw[ze0 _ _ _ hk,hI,hq];rfl,(zfY ⟨zz rfl rfl,zz rfl rfl,zz rfl rfl,zz rfl rfl,⟨_,rfl,zO ?_ rfl⟩,trivial⟩ ⟨zw rfl rfl,zw rfl rfl,trivial⟩)⟩
    exact congrArg (AV.int .i64) ((zy (by omega) (by omega)).trans (by omega))
   ·rw[zen _ _ _ hk,hq];simp
  ·obtain rfl:j=t.kids.length:=by rw[zeb]at hc;omega
   rw[List.take_length]at hI
   repeat'(first|refine WL_p hty rfl rfl ?_|refine zh ?_|refine zi ?_|refine za ?_|refine zbZ rfl ?_|refine zl ?_|refine zg ?_|refine zb rfl ?_)
   exact hI.symm
end Go.Proofs.YtokfbblhjpfjkaaGreat
namespace Go.Proofs.YtokfbblhjpfjkaaGreat
open Go.Aw Go.RowKit
def zyr:List (Nat×List Nat):=[(0,[]),(1,[]),(2,[]),(3,[1,2]),(4,[1,2,3]),(5,[0,1,2,3,4]),(6,[0,1,2,3,4,5]),(7,[0,1,2,3,4,5,6]),(8,[0,1,2,3,4,5,6]),(9,[0,1,2,3,4,5,6,7]),(10,[0,1,2,3,4,5,6,7,8,9])]
def zyz:List (Nat×List Nat):=[(0,[]),(1,[0]),(2,[0,1]),(3,[0,1,2]),(4,[0,1,2,3]),(5,[0,1,2,3]),(6,[0,1,2,3]),(7,[0,1,2,3,5,6]),(8,[0,1,2,3,5,6,7]),(9,[0,1,2,3,4,5,6,7,8]),(10,[0,1,2,3,4,5,6,7,8,9]),(11,[0,1,2,3,4,5,6,7,8,9,10]),(12,[0,1,2,3,4,5,6,7,8,9,10,11])]
def zx3:List (Nat×List Nat):=[(0,[]),(1,[0]),(2,[0,1]),(3,[0,1,2]),(4,[0,1,2,3]),(5,[0,1,2,3,4]),(6,[0,1,2,3,4,5]),(7,[0,1,2,3,4,5,6]),(8,[0,1,2,3,4,5,6,7]),(9,[0,1,2,3,4,5,6,7,8]),(10,[0,1,2,3,4,5,6,7,8]),(11,[0,1,2,3,4,5,6,7,8]),(12,[0,1,2,3,4,5,6,7,8,10,11]),(13,[0,1,2,3,4,5,6,7,8,10,11,12]),(14,[0,1,2,3,4,5,6,7,8]),(15,[0,1,2,3,4,5,6,7,8,9,10,11,12,13,14]),(16,[0,1,2,3,4,5,6,7,8,9,10,11,12,13,14,15]),(17,[0,1,2,3,4,5,6,7,8,9,10,11,12,13,14,15,16]),(18,[0,1,2,3,4,5,6,7,8,9,10,11,12,13,14,15,16,17])]
attribute [local irreducible] WL AC WD WE MStep OkOp
def zay(b:Bl)(base:Int)(args:List Ar)(m:Int)(t:Tm):Bool:=zaI b base args 1048576 m t
theorem zcv(b:Bl)(base:Int)(args:List Ar)(m:Int)(t:Tm)(hb:b.size≤1048576)(hl:args.length≤1048576)(hs:t.size≤1048576)(hfm:formedT t=true)(h0:0≤m)(hm:m+t.depth≤8388608):
 FC Tryz.prog 150 [aP ⟨b,base,args,m⟩,aT t] (.bool (zay b base args m t)):=zrM b base args hb hl 1048576 (Nat.le_refl _) t m hs hfm h0 hm
attribute [local irreducible] zay
def zkI{α β:Type}(p:α→β→Bool):List α→List β→Bool
 |[],_=>true
 |_::_,[]=>true
 |a::l,b::r=>p a b&&zkI p l r
theorem zfw{α β:Type}{p:α→β→Bool}: ∀ {l:List α} {r:List β},(∀ (i:Nat) (a:α) (b:β),l[i]? =some a→r[i]? =some b→p a b=true)→zkI p l r=true
 |[],_,_=>rfl
 |_::_,[],_=>rfl
 |a::l,b::r,q=>by
  simp only[zkI,q 0 a b rfl rfl,Bool.true_and]
  exact zfw (fun i a b h1 h2=>q (i+1) a b (by simpa using h1) (by simpa using h2))
theorem zbR{α β:Type}{p:α→β→Bool}: ∀ {l:List α} {r:List β} {i:Nat} {a:α} {b:β},l[i]? =some a→r[i]? =some b→p a b=false→zkI p l r=false
 |a::l,b::r,0,x,y,h1,h2,hp=>by
  obtain rfl:a=x:=by simpa using h1
  obtain rfl:b=y:=by simpa using h2
  simp only[zkI,hp,Bool.false_and]
 |a::l,b::r,i+1,x,y,h1,h2,hp=>by
  simp only[zkI,zbR (l:=l) (r:=r) (by simpa using h1) (by simpa using h2) hp,Bool.and_false]
 |[],_,_,_,_,h,_,_=>by simp at h
 |_::_,[],_,_,_,_,h,_=>by simp at h
theorem zbB{α β:Type}{p:α→β→Bool}{l:List α}{r:List β}{j:Nat}{a:α}{b:β}(hI: ∀ (i:Nat) (a:α) (b:β),i <j→l[i]? =some a→r[i]? =some b→p a b=true)(h1:l[j]? =some a)(h2:r[j]? =some b)(hp:p a b=true):
 ∀ (i:Nat) (a:α) (b:β),i <j+1→l[i]? =some a→r[i]? =some b→p a b=true:=by
 intro i x y hi hx hy
 rcases Nat.lt_or_ge i j with q|q
 ·exact hI i x y q hx hy
 ·obtain rfl:i=j:=by omega
  rw[h1]at hx
  rw[h2]at hy
  obtain rfl:=Option.some.inj hx
  obtain rfl:=Option.some.inj hy
  exact hp
theorem zfC{args:List Ar}{m:Int}{t:Tm}(h:(zal args m t).2=true):0≤(zal args m t).1∧ ∃ a,args[(zal args m t).1.toNat]? =some a:=by
 unfold zal at*
 split at h
 ·rename_i q
  rw[if_pos q]
  refine⟨by show 0≤(args.length:Int)-1-(t.num-m);omega,?_⟩
  obtain⟨a,ha,_⟩:=zA (show((args.length:Int)-1-(t.num-m)).toNat <args.length by omega)
  exact⟨a,ha⟩
 ·cases h
def zqb(args:List Ar)(i:Int):Nat:=match args[i.toNat]? with
 |some a=>a.dom.length
 |none=>0
def zdc(b:Bl)(i:Int):List Ar:=match b.cons[i.toNat]? with
 |some c=>c.args
 |none=>[]
def zhf(cl gd gu:Tm→Bool)(a:Ar)(x:Tm):Bool:=if a.rc=true then(if a.dom.length=0 then gd x else gu x)else cl x
def zdv(b:Bl)(base:Int)(args:List Ar)(m c:Int):Nat→Tm→Bool
 |0,_=>true
 |f+1,t=>
  if(zal args m (zF t).1).2=true then decide ((zF t).2.length=zqb args (zal args m (zF t).1).1)&&(zF t).2.all (zay b base args m)
  else decide ((zF t).1.kind=3)&&(decide ((ofB b base (zF t).1.num).1=5)&&(decide ((ofB b base (zF t).1.num).2 <c)&&(decide ((zF t).2.length=(zdc b (ofB b base (zF t).1.num).2).length)&&
   zkI (zhf (zay b base args m) (zdv b base args m c f) (fun x=>(zal args m x).2)) (zdc b (ofB b base (zF t).1.num).2) (zF t).2)))
set_option maxRecDepth 4000 in
set_option maxHeartbeats 16000000 in
theorem ztf(b:Bl)(base:Int)(args:List Ar)(m c:Int)(hb:b.size≤1048576)(hl:args.length≤1048576)(hm0:0≤m): ∀ n,n≤1048576→ ∀ (t:Tm),t.size≤n→formedT t=true→m+t.depth≤8388608→
 FC Tryz.prog 201 [aP ⟨b,base,args,m⟩,aT t,.int .i64 c] (.bool (zdv b base args m c n t)):=by
 intro n
 induction n with
 |zero=>intro hn t ht;have:=t.size_pos;omega
 |succ n ih=>
 intro hn t ht hfm hm
 have ih:=ih (by omega)
 have hsp:=zcR t (by omega)
 have hsz:=zbb t
 obtain⟨hi1,hi2⟩:=zdG (Sub t.depth) Sub.kid (t:=t) ⟨hfm,Nat.le_refl _⟩
 have hhp:=(zF t).1.size_pos
 obtain⟨f,hf⟩: ∃ f,f=(zF t).1:=⟨_,rfl⟩
 obtain⟨l,hll⟩: ∃ l,l=(zF t).2:=⟨_,rfl⟩
 have hd:zdv b base args m c (n+1) t=if(zal args m f).2=true then decide (l.length=zqb args (zal args m f).1)&&l.all (zay b base args m)
  else decide (f.kind=3)&&(decide ((ofB b base f.num).1=5)&&(decide ((ofB b base f.num).2 <c)&&(decide (l.length=(zdc b (ofB b base f.num).2).length)&&
   zkI (zhf (zay b base args m) (zdv b base args m c n) (fun x=>(zal args m x).2)) (zdc b (ofB b base f.num).2) l))):=by rw[hf,hll];rfl
 rw[hd]
 rw[←hf, ←hll]at hsp
 rw[←hf, ←hll]at hsz
 rw[←hf]at hi1 hhp
 rw[←hll]at hi2
 clear hd hf hll
 have hnum:=zCw hi1.1
 have hll:=zM l
 have hg:=zdz ⟨b,base,args,m⟩ f hl hnum ⟨hm0,by show m≤8388608;omega⟩
 have hgt:=zfC (args:=args) (m:=m) (t:=f)
 obtain⟨⟨gi,gb⟩,hG⟩: ∃ G,G=zal args m f:=⟨_,rfl⟩
 simp only at hg
 rw[←hG]at hg hgt⊢
 simp only at hg hgt⊢
 cases gb
 ·rw[if_neg (by decide)]
  by_cases k3:f.kind=3
  case neg=>
   refine zo hty Tryz.func201 rfl rfl rfl fun w0=>?_
   repeat'(first|exact absurd (show f.kind≠3 from k3) ‹_›|refine zv 0 rfl hsp rfl rfl rfl ?_|refine zv 0 rfl hg rfl rfl rfl ?_|refine WL_p hty rfl rfl ?_|refine zh ?_|refine zi ?_|refine za ?_|refine zxg ?_|refine zd rfl ?_|refine zbZ rfl ?_|refine zg ?_|refine zb rfl ?_|refine zj rfl rfl rfl rfl (fun _=>?_) (fun _=>?_))
   rw[decide_eq_false k3];rfl
  have hof:=zjd b base f.num hb (by omega)
  obtain⟨q1,_,q2⟩:=zfy (b:=b) (base:=base) (n:=f.num)
  obtain⟨⟨kd,wh⟩,hK⟩: ∃ K,K=ofB b base f.num:=⟨_,rfl⟩
  rw[←hK]at hof q1 q2⊢
  simp only at hof q1 q2⊢
  rw[decide_eq_true k3,Bool.true_and]
  by_cases k4:kd=5
  case neg=>
   refine zo hty Tryz.func201 rfl rfl rfl fun w0=>?_
   repeat'(first|exact absurd k3 ‹_›|exact absurd (show kd≠5 from k4) ‹_›|refine zv 0 rfl hsp rfl rfl rfl ?_|refine zv 0 rfl hg rfl rfl rfl ?_|refine zv 0 rfl hof rfl rfl rfl ?_|refine WL_p hty rfl rfl ?_|refine zh ?_|refine zi ?_|refine za ?_|refine zxg ?_|refine zd rfl ?_|refine zbZ rfl ?_|refine zg ?_|refine zot rfl rfl rfl ?_|refine zb rfl ?_|refine zj rfl rfl rfl rfl (fun _=>?_) (fun _=>?_))
   rw[decide_eq_false k4];rfl
  rw[decide_eq_true k4,Bool.true_and]
  by_cases k5:c≤wh
  case pos=>
   refine zo hty Tryz.func201 rfl rfl rfl fun w0=>?_
   repeat'(first|exact absurd k3 ‹_›|exact absurd k4 ‹_›|exact absurd k5 ‹_›|refine zv 0 rfl hsp rfl rfl rfl ?_|refine zv 0 rfl hg rfl rfl rfl ?_|refine zv 0 rfl hof rfl rfl rfl ?_|refine WL_p hty rfl rfl ?_|refine zh ?_|refine zi ?_|refine za ?_|refine zxg ?_|refine zd rfl ?_|refine zbZ rfl ?_|refine zg ?_|refine zx rfl rfl ?_|refine zot rfl rfl rfl ?_|refine zb rfl ?_|refine zj rfl rfl rfl rfl (fun _=>?_) (fun _=>?_))
   rw[decide_eq_false (by omega)];rfl
  rw[show decide (wh <c)=true from decide_eq_true (by omega),Bool.true_and]
  obtain⟨co,hco,hcm⟩:=zA (q2 k4)
  have rco:=zby hco
  have hca:zdc b wh=co.args:=by unfold zdc;rw[hco]
  have hcs:=zaB hcm
  have hcl:co.args.length≤1048576:=by
   have h1:=zae co.args
   have h2:co.size=zaH co.args+sizes co.idx+co.dec.size:=rfl
   have h3:b.size=zbh b.sorts+zbg b.cons:=rfl
   omega
  rw[hca]
  by_cases k6:l.length=co.args.length
  case neg=>
   refine zo hty Tryz.func201 rfl rfl rfl fun w0=>?_
   repeat'(first|exact absurd k3 ‹_›|exact absurd k4 ‹_›|exact absurd (by assumption) k5|(refine absurd ?_ k6;have hq:=Decidable.not_not.1 (show ¬((rsT l).length:Int)≠((zX co.args).length:Int) by assumption);rw[zN,zeb]at hq;omega)|refine zv 0 rfl hsp rfl rfl rfl ?_|refine zv 0 rfl hg rfl rfl rfl ?_|refine zv 0 rfl hof rfl rfl rfl ?_|refine WL_m rfl (zaq hty rfl rfl rfl q1 rco rfl) ?_|refine WL_p hty rfl rfl ?_|refine zh ?_|refine zi ?_|refine za ?_|refine zxg ?_|refine zd rfl ?_|refine zbZ rfl ?_|refine zg ?_|refine zx rfl rfl ?_|refine zb rfl ?_|refine zj rfl rfl rfl rfl (fun _=>?_) (fun _=>?_))
   rw[decide_eq_false k6];rfl
  rw[decide_eq_true k6,Bool.true_and]
  have n6: ¬((rsT l).length:Int)≠((zX co.args).length:Int):=by rw[zN,zeb];omega
  refine zo hty Tryz.func201 rfl rfl rfl fun w0=>?_
  repeat'(first|exact absurd k3 ‹_›|exact absurd k4 ‹_›|exact absurd (by assumption) k5|exact absurd (by assumption) n6|refine zv 0 rfl hsp rfl rfl rfl ?_|refine zv 0 rfl hg rfl rfl rfl ?_|refine zv 0 rfl hof rfl rfl rfl ?_|refine WL_m rfl (zaq hty rfl rfl rfl q1 rco rfl) ?_|refine WL_p hty rfl rfl ?_|refine zh ?_|refine zi ?_|refine za ?_|refine zf ?_|refine zxg ?_|refine zbZ rfl ?_|refine zx rfl rfl ?_|refine zj rfl rfl rfl rfl (fun _=>?_) (fun _=>?_))
  refine zW co.args.length (fun j=> ∀ (i:Nat) (a:Ar) (x:Tm),i <j→co.args[i]? =some a→l[i]? =some x→zhf (zay b base args m) (zdv b base args m c n) (fun x=>(zal args m x).2) a x=true)
   (fun j=>⟨envOf [(2,.int .i64 c),(3,.ptr 3 0),(8,sT l),(83,sA co.args),(84,.int .i64 ((zX co.args).length:Nat)),(85,.int .i64 (j:Nat))],bkOf [(3,.box (cP ⟨b,base,args,m⟩))]⟩)
   (zfY ⟨zz rfl rfl,zz rfl rfl,zz rfl rfl,zz rfl rfl,zz rfl rfl,zz rfl rfl,trivial⟩ ⟨zw rfl rfl,trivial⟩) (fun i a x hi=>absurd hi (Nat.not_lt_zero _)) ?_
  intro j hj hI
  repeat'(first|refine zi ?_|refine za ?_)
  refine zj rfl rfl rfl rfl (fun hc=>?_) (fun hc=>?_)
  ·have hlt:j <co.args.length:=by rw[zN]at hc;omega
   obtain⟨a,ha,_⟩:=zA hlt
   obtain⟨x,hx,hxm⟩:=zA (k6▸hlt)
   have ra:=za6 ha
   have rx:=zac hx
   have hxs:=zK hxm
   have hxi:=hi2 x hxm
   have hxd:=hxi.2
   have hg2:=zdz ⟨b,base,args,m⟩ x hl (zCw hxi.1) ⟨hm0,by show m≤8388608;omega⟩
   have hcl2:=zcv b base args m x hb hl (by omega) hxi.1 hm0 (by omega)
   have hgd2:=ih x (by omega) hxi.1 (by omega)
   have hgg:zhf (zay b base args m) (zdv b base args m c n) (fun x=>(zal args m x).2) a x=if a.rc=true then(if a.dom.length=0 then zdv b base args m c n x else(zal args m x).2)else zay b base args m x:=rfl
   obtain⟨⟨gi2,gb2⟩,hG2⟩: ∃ G,G=zal args m x:=⟨_,rfl⟩
   simp only at hg2
   rw[←hG2]at hg2 hgg
   simp only at hg2 hgg
   have hst: ∀ s:AS,zhf (zay b base args m) (zdv b base args m c n) (fun x=>(zal args m x).2) a x=true→Less s ⟨envOf [(2,.int .i64 c),(3,.ptr 3 0),(8,sT l),(83,sA co.args),(84,.int .i64 ((zX co.args).length:Nat)),(85,.int .i64 ((j+1:Nat):Int))],bkOf [(3,.box (cP ⟨b,base,args,m⟩))]⟩→
    j <co.args.length∧(∀ (i:Nat) (a:Ar) (x:Tm),i <j+1→co.args[i]? =some a→l[i]? =some x→zhf (zay b base args m) (zdv b base args m c n) (fun x=>(zal args m x).2) a x=true)∧Less s ⟨envOf [(2,.int .i64 c),(3,.ptr 3 0),(8,sT l),(83,sA co.args),(84,.int .i64 ((zX co.args).length:Nat)),(85,.int .i64 ((j+1:Nat):Int))],bkOf [(3,.box (cP ⟨b,base,args,m⟩))]⟩:=
    fun s h1 h2=>⟨hlt,zbB hI ha hx h1,h2⟩
   obtain⟨rc,tt,dd,so,ix⟩:=a
   cases rc
   ·rw[if_neg (show ¬false=true by decide)]at hgg
    repeat'(first|refine zD (id:=13) zyr rfl (by kernel_rfl) ?_|refine zD (id:=14) zyz rfl (by kernel_rfl) ?_|refine zD (id:=15) zx3 rfl (by kernel_rfl) ?_|refine zbc rfl (zm (i:=j) hty rfl rfl rfl rx rfl) ?_|refine zad 0 rfl hg2 rfl rfl rfl ?_|refine zan rfl hcl2 rfl (fun _=>?_) (fun _=>?_)|refine zu (.inl ⟨rfl,zI hty rfl rfl⟩) ?_|refine zaG rfl rfl ?_|refine zau rfl rfl rfl ?_|refine zS ⟨by kernel_rfl,?_⟩|refine WL_p hty rfl rfl ?_|refine zh ?_|refine zi ?_|refine za ?_|refine zf ?_|refine zxg ?_|refine zd rfl ?_|refine zbZ rfl ?_|refine zg ?_|refine zq rfl rfl rfl ?_|refine WL_m rfl (zm hty rfl rfl rfl (by assumption) rfl) ?_|refine zb rfl ?_)
    all_goals first
     |exact(zbR ha hx (hgg.trans ‹_›)).symm
     |(refine⟨hlt,zbB hI ha hx (hgg.trans ‹_›),(zfY ⟨zz rfl rfl,zz rfl rfl,zz rfl rfl,zz rfl rfl,zz rfl rfl,⟨_,rfl,zO ?_ rfl⟩,trivial⟩ ⟨zw rfl rfl,trivial⟩)⟩;exact congrArg (AV.int .i64) ((zy (by omega) (by omega)).trans (by omega)))
   ·rw[if_pos rfl]at hgg
    by_cases h0:dd.length=0
    ·rw[if_pos h0]at hgg
     have m1:((rsT dd).length:Int)=0:=by rw[zeb];omega
     have m2: ¬0 <((rsT dd).length:Int):=by rw[zeb];omega
     repeat'(first|exact absurd m1 ‹_›|exact absurd (by assumption) m2|refine zD (id:=13) zyr rfl (by kernel_rfl) ?_|refine zD (id:=14) zyz rfl (by kernel_rfl) ?_|refine zD (id:=15) zx3 rfl (by kernel_rfl) ?_|refine zbc rfl (zm (i:=j) hty rfl rfl rfl rx rfl) ?_|refine zad 0 rfl hg2 rfl rfl rfl ?_|refine zan rfl hgd2 rfl (fun _=>?_) (fun _=>?_)|refine zu (.inl ⟨rfl,zI hty rfl rfl⟩) ?_|refine zaG rfl rfl ?_|refine zau rfl rfl rfl ?_|refine zS ⟨by kernel_rfl,?_⟩|refine WL_p hty rfl rfl ?_|refine zh ?_|refine zi ?_|refine za ?_|refine zf ?_|refine zxg ?_|refine zd rfl ?_|refine zbZ rfl ?_|refine zg ?_|refine zx rfl rfl ?_|refine zq rfl rfl rfl ?_|refine WL_m rfl (zm hty rfl rfl rfl (by assumption) rfl) ?_|refine zb rfl ?_|refine zj rfl rfl rfl rfl (fun _=>?_) (fun _=>?_)|refine zaC rfl rfl rfl rfl (fun _=>?_) (fun _=>?_))
     all_goals first
      |exact(zbR ha hx (hgg.trans ‹_›)).symm
      |(refine⟨hlt,zbB hI ha hx (hgg.trans ‹_›),(zfY ⟨zz rfl rfl,zz rfl rfl,zz rfl rfl,zz rfl rfl,zz rfl rfl,⟨_,rfl,zO ?_ rfl⟩,trivial⟩ ⟨zw rfl rfl,trivial⟩)⟩;exact congrArg (AV.int .i64) ((zy (by omega) (by omega)).trans (by omega)))
    ·rw[if_neg h0]at hgg
     have m1: ¬((rsT dd).length:Int)=0:=by rw[zeb];omega
     have m2:0 <((rsT dd).length:Int):=by rw[zeb];omega
     cases gb2
     all_goals
      repeat'(first|exact absurd (by assumption) m1|exact absurd m2 ‹_›|refine zD (id:=13) zyr rfl (by kernel_rfl) ?_|refine zD (id:=14) zyz rfl (by kernel_rfl) ?_|refine zD (id:=15) zx3 rfl (by kernel_rfl) ?_|refine zbc rfl (zm (i:=j) hty rfl rfl rfl rx rfl) ?_|refine zad 0 rfl hg2 rfl rfl rfl ?_|refine zu (.inl ⟨rfl,zI hty rfl rfl⟩) ?_|refine zaG rfl rfl ?_|refine zau rfl rfl rfl ?_|refine zS ⟨by kernel_rfl,?_⟩|refine WL_p hty rfl rfl ?_|refine zh ?_|refine zi ?_|refine za ?_|refine zf ?_|refine zxg ?_|refine zd rfl ?_|refine zbZ rfl ?_|refine zg ?_|refine zx rfl rfl ?_|refine WL_m rfl (zm hty rfl rfl rfl (by assumption) rfl) ?_|refine zb rfl ?_|refine zj rfl rfl rfl rfl (fun _=>?_) (fun _=>?_)|refine zaC rfl rfl rfl rfl (fun _=>?_) (fun _=>?_))
      first
       |exact(zbR ha hx (hgg.trans rfl)).symm
       |(refine⟨hlt,zbB hI ha hx (hgg.trans rfl),(zfY ⟨zz rfl rfl,zz rfl rfl,zz rfl rfl,zz rfl rfl,zz rfl rfl,⟨_,rfl,zO ?_ rfl⟩,trivial⟩ ⟨zw rfl rfl,trivial⟩)⟩;exact congrArg (AV.int .i64) ((zy (by omega) (by omega)).trans (by omega)))
  ·obtain rfl:j=co.args.length:=by rw[zN]at hc;omega
   repeat'(first|refine WL_p hty rfl rfl ?_|refine zh ?_|refine zi ?_|refine za ?_|refine zbZ rfl ?_|refine zl ?_|refine zg ?_|refine zb rfl ?_)
   exact(zfw fun i a x h1 h2=>hI i a x (List.getElem?_eq_some_iff.1 h1).1 h1 h2).symm
 ·rw[if_pos rfl]
  obtain⟨g0,a,ha⟩:=hgt rfl
  have ra:=za6 ha
  have hdn:zqb args gi=a.dom.length:=by unfold zqb;rw[ha]
  have hal:=zhX ⟨b,base,args,m⟩ l (zay b base args m) (by omega) (fun x hx=>zcv b base args m x hb hl (by have:=zK hx;omega) (hi2 x hx).1 hm0 (by have:=(hi2 x hx).2;omega))
  rw[hdn]
  refine zo hty Tryz.func201 rfl rfl rfl fun w0=>?_
  repeat'(first|refine zv 0 rfl hsp rfl rfl rfl ?_|refine zv 0 rfl hg rfl rfl rfl ?_|refine zL rfl hal rfl (fun _=>?_) (fun _=>?_)|refine WL_m rfl (zaq hty rfl rfl rfl g0 ra rfl) ?_|refine WL_p hty rfl rfl ?_|refine zh ?_|refine zi ?_|refine za ?_|refine zd rfl ?_|refine zg ?_|refine zx rfl rfl ?_|refine zq rfl rfl rfl ?_|refine zb rfl ?_|refine zj rfl rfl rfl rfl (fun _=>?_) (fun _=>?_))
  all_goals(rw[zeb,zeb]at*)
  ·rename_i h1 h2
   rw[h2,decide_eq_true (by omega)];rfl
  ·rename_i h1 h2
   rw[h2,Bool.and_false]
  ·rename_i h1
   rw[decide_eq_false (by omega)];rfl
end Go.Proofs.YtokfbblhjpfjkaaGreat
namespace Go.Proofs.YtokfbblhjpfjkaaGreat
open Go.Aw Go.RowKit
def zzD:List (Nat×List Nat):=[(0,[]),(1,[0]),(2,[0,1]),(3,[0,1,2]),(4,[0,1,2]),(5,[0,1,2]),(6,[0,1,2,4,5]),(7,[0,1,2,4,5,6]),(8,[0,1,2]),(9,[0,1,2,3,4,5,6,7,8]),(10,[0,1,2,3,4,5,6,7,8,9]),(11,[0,1,2,3,4,5,6,7,8,9,10]),(12,[0,1,2,3,4,5,6,7,8,9,10,11]),(13,[0,1,2,3,4,5,6,7,8,9,10,11,12]),(14,[0,1,2,3,4,5,6,7,8,9,10,11,12,13]),(15,[0,1,2,3,4,5,6,7,8,9,10,11,12,13,14]),(16,[0,1,2,3,4,5,6,7,8,9,10,11,12,13,14,15]),(17,[0,1,2,3,4,5,6,7,8,9,10,11,12,13,14,15,16]),(18,[0,1,2,3,4,5,6,7,8,9,10,11,12,13,14,15,16]),(19,[0,1,2,3,4,5,6,7,8,9,10,11,12,13,14,15,16]),(20,[0,1,2,3,4,5,6,7,8,9,10,11,12,13,14,15,16,18,19]),(21,[0,1,2,3,4,5,6,7,8,9,10,11,12,13,14,15,16,18,19,20]),(22,[0,1,2,3,4,5,6,7,8,9,10,11,12,13,14,15,16,17,18,19,20,21]),(23,[0,1,2,3,4,5,6,7,8,9,10,11,12,13,14,15,16,17,18,19,20,21,22]),(24,[0,1,2,3,4,5,6,7,8,9,10,11,12,13,14,15,16,17,18,19,20,21,22,23]),(25,[0,1,2,3,4,5,6,7,8,9,10,11,12,13,14,15,16,17,18,19,20,21,22,23,24])]
def zzy:List (Nat×List Nat):=[(0,[]),(1,[]),(2,[]),(3,[]),(4,[2,3]),(5,[0,1,2,3,4]),(6,[]),(7,[0,1,2,3,4,5,6])]
def zAA:List (Nat×List Nat):=[(0,[]),(1,[]),(2,[0,1]),(3,[]),(4,[0,1,2,3]),(5,[0,1,2,3,4])]
def zAT:List (Nat×List Nat):=[(0,[]),(1,[]),(2,[1]),(3,[1,2]),(4,[0,1,2,3]),(5,[]),(6,[5]),(7,[]),(8,[7]),(9,[]),(10,[0,1,2,3,4,5,6,7,8,9]),(11,[0,1,2,3,4,5,6,7,8,9,10])]
attribute [local irreducible] WL AC WD WE MStep OkOp zay
def zfg(b:Bl)(base:Int)(args:List Ar)(m c:Int)(t:Tm):Bool:=zdv b base args m c 1048576 t
theorem zrX(b:Bl)(base:Int)(args:List Ar)(m c:Int)(t:Tm)(hb:b.size≤1048576)(hl:args.length≤1048576)(hs:t.size≤1048576)(hfm:formedT t=true)(h0:0≤m)(hm:m+t.depth≤8388608):
 FC Tryz.prog 201 [aP ⟨b,base,args,m⟩,aT t,.int .i64 c] (.bool (zfg b base args m c t)):=ztf b base args m c hb hl h0 1048576 (Nat.le_refl _) t hs hfm hm
attribute [local irreducible] zfg
theorem zmh{t:Tm}(h:checkT t=0):t.size≤6000∧t.depth≤200∧formedT t=true:=by
 unfold checkT at h
 split at h
 ·omega
 ·split at h
  ·omega
  ·split at h
   ·exact⟨by omega,by omega,by assumption⟩
   ·omega
theorem zbT{t:Tm}{v:Int}(h:openT t v=true):t.size≤6000∧t.depth≤200∧formedT t=true:=by
 unfold openT zcY at h
 simp only[Bool.and_eq_true,decide_eq_true_eq]at h
 exact zmh h.2.2.1
def ziY(b:Bl)(s:Int):List Ar:=match b.sorts[s.toNat]? with
 |some x=>x.idx
 |none=>[]
def zi3(b:Bl)(base:Int)(args:List Ar)(m c sort:Int)(l:List Tm):Bool:=zkI (fun a x=>if a.rc=true then zfg b base args m c x else zay b base args m x) (ziY b sort) l
set_option maxRecDepth 4000 in
set_option maxHeartbeats 4000000 in
theorem zha(b:Bl)(base:Int)(args:List Ar)(m c sort:Int)(l:List Tm)(hb:b.size≤1048576)(hl:args.length≤1048576)(hm:0≤m∧m≤4194304)(hso:0≤sort∧sort.toNat <b.sorts.length)(hlen:l.length=idxN b sort)
 (ho: ∀ x,x∈l→x.size≤6000∧x.depth≤200∧formedT x=true):FC Tryz.prog 151 [aP ⟨b,base,args,m⟩,.int .i64 sort,sT l,.int .i64 c] (.bool (zi3 b base args m c sort l)):=by
 obtain⟨s,hs,hsm⟩:=zA hso.2
 have rs:=zaK hs
 have hio:ziY b sort=s.idx:=by unfold ziY;rw[hs]
 have hin:idxN b sort=s.idx.length:=by unfold idxN;rw[hs]
 rw[hin]at hlen
 have hsl:s.idx.length≤1048576:=by
  have h0:=zat hsm
  have h1:=zae s.idx
  have h2:s.size=zaH s.idx+s.decT.size:=rfl
  have h3:b.size=zbh b.sorts+zbg b.cons:=rfl
  omega
 unfold zi3
 rw[hio]
 refine zo hty Tryz.func151 rfl rfl rfl fun w0=>?_
 repeat'(first|refine WL_m rfl (zaq hty rfl rfl rfl hso.1 rs rfl) ?_|refine WL_p hty rfl rfl ?_|refine zh ?_|refine zi ?_|refine za ?_|refine zf ?_)
 refine zW s.idx.length (fun j=> ∀ (i:Nat) (a:Ar) (x:Tm),i <j→s.idx[i]? =some a→l[i]? =some x→(fun(a:Ar) x=>if a.rc=true then zfg b base args m c x else zay b base args m x) a x=true)
  (fun j=>⟨envOf [(2,sT l),(3,.int .i64 c),(4,.ptr 4 0),(17,sA s.idx),(18,.int .i64 ((zX s.idx).length:Nat)),(19,.int .i64 (j:Nat))],bkOf [(4,.box (cP ⟨b,base,args,m⟩))]⟩)
  (zfY ⟨zz rfl rfl,zz rfl rfl,zz rfl rfl,zz rfl rfl,zz rfl rfl,zz rfl rfl,trivial⟩ ⟨zw rfl rfl,trivial⟩) (fun i a x hi=>absurd hi (Nat.not_lt_zero _)) ?_
 intro j hj hI
 repeat'(first|refine zi ?_|refine za ?_)
 refine zj rfl rfl rfl rfl (fun hc=>?_) (fun hc=>?_)
 ·have hlt:j <s.idx.length:=by rw[zN]at hc;omega
  obtain⟨a,ha,_⟩:=zA hlt
  obtain⟨x,hx,hxm⟩:=zA (hlen▸hlt)
  have ra:=za6 ha
  have rx:=zac hx
  obtain⟨o1,o2,o3⟩:=ho x hxm
  have hcl:=zcv b base args m x hb hl (by omega) o3 hm.1 (by omega)
  have hgd:=zrX b base args m c x hb hl (by omega) o3 hm.1 (by omega)
  obtain⟨rc,tt,dd,so,ix⟩:=a
  cases rc
  ·repeat'(first|refine zD (id:=4) zzD rfl (by kernel_rfl) ?_|refine zbc rfl (zm (i:=j) hty rfl rfl rfl rx rfl) ?_|refine zan rfl hcl rfl (fun _=>?_) (fun _=>?_)|refine zu (.inl ⟨rfl,zI hty rfl rfl⟩) ?_|refine zaG rfl rfl ?_|refine zau rfl rfl rfl ?_|refine zS ⟨by kernel_rfl,?_⟩|refine WL_p hty rfl rfl ?_|refine zh ?_|refine zi ?_|refine za ?_|refine zf ?_|refine zxg ?_|refine zd rfl ?_|refine zbZ rfl ?_|refine zg ?_|refine WL_m rfl (zm hty rfl rfl rfl (by assumption) rfl) ?_|refine zb rfl ?_)
   ·refine⟨hlt,zbB hI ha hx ‹_›,(zfY ⟨zz rfl rfl,zz rfl rfl,zz rfl rfl,zz rfl rfl,zz rfl rfl,⟨_,rfl,zO ?_ rfl⟩,trivial⟩ ⟨zw rfl rfl,trivial⟩)⟩
    exact congrArg (AV.int .i64) ((zy (by omega) (by omega)).trans (by omega))
   ·exact(zbR ha hx (by show zay b base args m x=false;assumption)).symm
  ·repeat'(first|refine zD (id:=4) zzD rfl (by kernel_rfl) ?_|refine zbc rfl (zm (i:=j) hty rfl rfl rfl rx rfl) ?_|refine zan rfl hgd rfl (fun _=>?_) (fun _=>?_)|refine zu (.inl ⟨rfl,zI hty rfl rfl⟩) ?_|refine zaG rfl rfl ?_|refine zau rfl rfl rfl ?_|refine zav rfl rfl rfl ?_|refine zaw rfl rfl rfl ?_|refine zS ⟨by kernel_rfl,?_⟩|refine WL_p hty rfl rfl ?_|refine zh ?_|refine zi ?_|refine za ?_|refine zf ?_|refine zxg ?_|refine zd rfl ?_|refine zbZ rfl ?_|refine zg ?_|refine WL_m rfl (zm hty rfl rfl rfl (by assumption) rfl) ?_|refine zb rfl ?_)
   ·refine⟨hlt,zbB hI ha hx ‹_›,(zfY ⟨zz rfl rfl,zz rfl rfl,zz rfl rfl,zz rfl rfl,zz rfl rfl,⟨_,rfl,zO ?_ rfl⟩,trivial⟩ ⟨zw rfl rfl,trivial⟩)⟩
    exact congrArg (AV.int .i64) ((zy (by omega) (by omega)).trans (by omega))
   ·exact(zbR ha hx (by show zfg b base args m c x=false;assumption)).symm
 ·obtain rfl:j=s.idx.length:=by rw[zN]at hc;omega
  repeat'(first|refine WL_p hty rfl rfl ?_|refine zh ?_|refine zi ?_|refine za ?_|refine zbZ rfl ?_|refine zl ?_|refine zg ?_|refine zb rfl ?_)
  exact(zfw fun i a x h1 h2=>hI i a x (List.getElem?_eq_some_iff.1 h1).1 h1 h2).symm
def zcP(b:Bl)(base:Int)(args:List Ar):Int→List Tm→Bool
 |_,[]=>true
 |i,d::l=>zay b base args i d&&zcP b base args (i+1) l
theorem zeI(b:Bl)(base:Int)(args:List Ar)(r:List Tm): ∀ (l:List Tm) (i:Int),zcP b base args i (l++r)=(zcP b base args i l&&zcP b base args (i+l.length) r)
 |[],i=>by simp[zcP]
 |t::l,i=>by
  simp only[List.cons_append,zcP,zeI b base args r l,List.length_cons,Bool.and_assoc]
  rw[show i+1+(l.length:Int)=i+((l.length+1:Nat):Int) by omega]
theorem zip(b:Bl)(base:Int)(args:List Ar){l:List Tm}{j:Nat}{x:Tm}(h:l[j]? =some x):zcP b base args 0 l=(zcP b base args 0 (l.take j)&&(zay b base args (j:Nat) x&&zcP b base args ((j:Nat)+1) (l.drop (j+1)))):=by
 have hlt:j <l.length:=(List.getElem?_eq_some_iff.1 h).1
 conv=>lhs;rw[←List.take_append_drop j l,zeI,List.drop_eq_getElem_cons hlt,zcP]
 have h1:(l.take j).length=j:=by rw[List.length_take];omega
 have h2:l[j]=x:=by rw[List.getElem?_eq_getElem hlt]at h;exact Option.some.inj h
 rw[h1,h2,Int.zero_add]
theorem zj6(b:Bl)(base:Int)(args:List Ar){l:List Tm}{j:Nat}{x:Tm}(h:l[j]? =some x):zcP b base args 0 (l.take (j+1))=(zcP b base args 0 (l.take j)&&zay b base args (j:Nat) x):=by
 have hlt:j <l.length:=(List.getElem?_eq_some_iff.1 h).1
 have h1:(l.take j).length=j:=by rw[List.length_take];omega
 rw[List.take_add_one,h,Option.toList_some,zeI,h1,Int.zero_add]
 simp[zcP]
def zht(b:Bl)(base:Int)(args:List Ar)(c:Int)(a:Ar):Bool:=if a.rc=true then zcP b base args 0 a.dom&&zi3 b base args a.dom.length c a.sort a.idx else zay b base args 0 a.typ
def ziH(b:Bl)(base c:Int)(l:List Ar):Bool:=(List.range l.length).all fun i=>match l[i]? with
 |some a=>zht b base (l.take i) c a
 |none=>true
theorem zhx{b:Bl}{base c:Int}{l:List Ar}:ziH b base c l=true↔ ∀ (i:Nat) (a:Ar),l[i]? =some a→zht b base (l.take i) c a=true:=by
 unfold ziH
 rw[List.all_eq_true]
 constructor
 ·intro h i a ha
  have:=h i (List.mem_range.2 (List.getElem?_eq_some_iff.1 ha).1)
  rwa[ha]at this
 ·intro h i hi
  obtain⟨a,ha,_⟩:=zA (List.mem_range.1 hi)
  rw[ha];exact h i a ha
theorem zjP{b:Bl}{l:List Ar}{i:Nat}{a:Ar}(h:zaT b 0 l=true)(ha:l[i]? =some a):zbQ b a (i:Nat)=true:=by
 rw[zdE ha,Int.zero_add]at h
 simp only[Bool.and_eq_true]at h
 exact h.2.1
theorem ziz{l:List Tm}{i:Nat}{t:Tm}{v:Int}(h:zCc v l=true)(ha:l[i]? =some t):openT t (v+(i:Nat))=true:=by
 rw[zei ha]at h
 simp only[Bool.and_eq_true]at h
 exact h.2.1
set_option maxRecDepth 4000 in
set_option maxHeartbeats 8000000 in
theorem zkY(b:Bl)(base c:Int)(l:List Ar)(hb:b.size≤1048576)(hl:zaH l≤1048576)(hseq:zaT b 0 l=true):FC Tryz.prog 149 [aB b,.int .i64 base,sA l,.int .i64 c] (.bool (ziH b base c l)):=by
 have hlen:=zae l
 refine zo hty Tryz.func149 rfl rfl rfl fun w0=>?_
 repeat'(first|refine WL_p hty rfl rfl ?_|refine zh ?_|refine zi ?_|refine za ?_|refine zf ?_)
 refine zW l.length (fun j=> ∀ (i:Nat) (a:Ar),i <j→l[i]? =some a→zht b base (l.take i) c a=true)
  (fun j=>⟨envOf [(1,.int .i64 base),(2,sA l),(3,.int .i64 c),(4,.ptr 4 0),(14,sA l),(15,.int .i64 ((zX l).length:Nat)),(16,.int .i64 (j:Nat))],bkOf [(4,.box (cB b))]⟩)
  (zfY ⟨zz rfl rfl,zz rfl rfl,zz rfl rfl,zz rfl rfl,zz rfl rfl,zz rfl rfl,zz rfl rfl,trivial⟩ ⟨zw rfl rfl,trivial⟩) (fun i a hi=>absurd hi (Nat.not_lt_zero _)) ?_
 intro j hj hI
 repeat'(first|refine zi ?_|refine za ?_)
 refine zj rfl rfl rfl rfl (fun hc=>?_) (fun hc=>?_)
 ·have hlt:j <l.length:=by rw[zN]at hc;omega
  obtain⟨a,ha,ham⟩:=zA hlt
  have ra:=za6 ha
  have hag:=zjP hseq ha
  have has:=zaM ham
  unfold Ar.size at has
  have hnext:zht b base (l.take j) c a=true→ ∀ (i:Nat) (a:Ar),i <j+1→l[i]? =some a→zht b base (l.take i) c a=true:=fun hp i u hi hu=>by
   rcases Nat.lt_or_ge i j with q|q
   ·exact hI i u q hu
   ·obtain rfl:i=j:=by omega
    rw[ha]at hu
    obtain rfl:=Option.some.inj hu
    exact hp
  have hbad:zht b base (l.take j) c a=false→ziH b base c l=false:=fun hp=>Bool.eq_false_iff.2 fun q=>by rw[zhx.1 q j a ha]at hp;cases hp
  have htl:(l.take j).length≤1048576:=by rw[List.length_take];omega
  have hrt:zX (l.take j)=((zX l).take j).drop 0:=by rw[List.drop_zero,zf7,zf7,List.map_take]
  have hpe: ∀ m:Int,aP ⟨b,base,l.take j,m⟩=.agg [.lst 6 (zY b.sorts) false,.lst 6 (rsC b.cons) false,.int .i64 b.elim,.int .i64 base,.lst 7 (((zX l).take j).drop 0) false,.int .i64 m]:=fun m=>by rw[←hrt]
  obtain⟨rc,tt,dd,so,ix⟩:=a
  simp only at has
  cases rc
  ·have hpa:zht b base (l.take j) c ⟨false,tt,dd,so,ix⟩=zay b base (l.take j) 0 tt:=rfl
   have hop:openT tt (j:Nat)=true:=by
    have:zbQ b ⟨false,tt,dd,so,ix⟩ (j:Nat)=(openT tt (j:Nat)&&(decide ((dd.length:Int)+ix.length=0)&&decide (so=0))):=rfl
    rw[this]at hag
    simp only[Bool.and_eq_true]at hag
    exact hag.1
   obtain⟨o1,o2,o3⟩:=zbT hop
   have hcl:=zcv b base (l.take j) 0 tt hb htl (by omega) o3 (by omega) (by omega)
   rw[hpe]at hcl
   repeat'(first|refine zD (id:=4) zzy rfl (by kernel_rfl) ?_|refine zu (.inl ⟨rfl,zbO hty 0 j rfl rfl rfl ⟨_,_,rfl,rfl⟩ (Nat.zero_le _) (by rw[zN];omega) rfl⟩) ?_|refine zL rfl hcl rfl (fun _=>?_) (fun _=>?_)|refine zu (.inl ⟨rfl,zI hty rfl rfl⟩) ?_|refine zS ⟨by kernel_rfl,?_⟩|refine WL_p hty rfl rfl ?_|refine zh ?_|refine zi ?_|refine za ?_|refine zf ?_|refine zxg ?_|refine zd rfl ?_|refine zbZ rfl ?_|refine zl ?_|refine zg ?_|refine WL_m rfl (zm hty rfl rfl rfl (by assumption) rfl) ?_|refine zb rfl ?_)
   ·rename_i hq
    refine⟨hlt,hnext (hpa.trans hq),(zfY ⟨zz rfl rfl,zz rfl rfl,zz rfl rfl,zz rfl rfl,zz rfl rfl,zz rfl rfl,⟨_,rfl,zO ?_ rfl⟩,trivial⟩ ⟨zw rfl rfl,trivial⟩)⟩
    exact congrArg (AV.int .i64) ((zy (by omega) (by omega)).trans (by omega))
   ·exact(hbad (hpa.trans ‹_›)).symm
  ·have hpa:zht b base (l.take j) c ⟨true,tt,dd,so,ix⟩=(zcP b base (l.take j) 0 dd&&zi3 b base (l.take j) dd.length c so ix):=rfl
   have hae:zbQ b ⟨true,tt,dd,so,ix⟩ (j:Nat)=((decide (tt=zT)&&(decide (dd.length≤12)&&(inR so 0 ((b.sorts.length:Int)-1)&&decide (ix.length=idxN b so))))&&(zCc (j:Nat) dd&&ix.all fun t=>openT t ((j:Nat)+dd.length))):=rfl
   rw[hae]at hag
   simp only[Bool.and_eq_true,decide_eq_true_eq,inR]at hag
   obtain⟨⟨_,a2,⟨a3,a4⟩,a5⟩,a6,a7⟩:=hag
   have hld:=zM dd
   repeat'(first|refine zD (id:=4) zzy rfl (by kernel_rfl) ?_|refine zu (.inl ⟨rfl,zbO hty 0 j rfl rfl rfl ⟨_,_,rfl,rfl⟩ (Nat.zero_le _) (by rw[zN];omega) rfl⟩) ?_|refine zu (.inl ⟨rfl,zI hty rfl rfl⟩) ?_|refine zS ⟨by kernel_rfl,?_⟩|refine WL_p hty rfl rfl ?_|refine zh ?_|refine zi ?_|refine za ?_|refine zf ?_|refine zxg ?_|refine zd rfl ?_|refine zbZ rfl ?_|refine WL_m rfl (zm hty rfl rfl rfl (by assumption) rfl) ?_)
   refine zW dd.length (fun k=>zcP b base (l.take j) 0 (dd.take k)=true)
    (fun k=>⟨envOf [(1,.int .i64 base),(2,sA l),(3,.int .i64 c),(4,.ptr 4 0),(10,.ptr 10 0),(11,.ptr 11 0),(14,sA l),(15,.int .i64 ((zX l).length:Nat)),(16,.int .i64 (j:Nat)),(36,sT dd),(37,.int .i64 ((rsT dd).length:Nat)),(38,.int .i64 (k:Nat))],
      bkOf [(4,.box (cB b)),(10,.box (cA ⟨true,tt,dd,so,ix⟩)),(11,.box [.lst 6 (zY b.sorts) false,.lst 6 (rsC b.cons) false,.int .i64 b.elim,.int .i64 base,.lst 7 (((zX l).take j).drop 0) false,.int .i64 0])]⟩)
    (zfY ⟨zz rfl rfl,zz rfl rfl,zz rfl rfl,zz rfl rfl,zz rfl rfl,zz rfl rfl,zz rfl rfl,zz rfl rfl,zz rfl rfl,zz rfl rfl,zz rfl rfl,zz rfl rfl,trivial⟩ ⟨zw rfl rfl,zw rfl rfl,zw rfl rfl,trivial⟩) rfl ?_
   intro k hk hJ
   repeat'(first|refine zi ?_|refine za ?_)
   refine zj rfl rfl rfl rfl (fun hc2=>?_) (fun hc2=>?_)
   ·have hc2:(k:Int) <((rsT dd).length:Int):=hc2
    have hkl:k <dd.length:=by rw[zeb]at hc2;omega
    obtain⟨d,hd,hdm⟩:=zA hkl
    have rd:=zac hd
    obtain⟨o1,o2,o3⟩:=zbT (ziz a6 hd)
    have hcl:=zcv b base (l.take j) (k:Nat) d hb htl (by omega) o3 (Int.natCast_nonneg _) (by omega)
    have hin:=zjB ⟨b,base,l.take j,0⟩ (k:Nat) ⟨by show -4194304≤0+(k:Int);omega,by show 0+(k:Int)≤8388608;omega⟩
    rw[show(⟨b,base,l.take j,0⟩:Pl).inn (k:Nat)=⟨b,base,l.take j,(k:Nat)⟩ by simp[Pl.inn],hpe 0]at hin
    repeat'(first|refine zD (id:=11) zAA rfl (by kernel_rfl) ?_|refine zad 0 rfl hin rfl rfl rfl ?_|refine zan rfl hcl rfl (fun _=>?_) (fun _=>?_)|refine zu (.inl ⟨rfl,zI hty rfl rfl⟩) ?_|refine zS ⟨by kernel_rfl,?_⟩|refine WL_p hty rfl rfl ?_|refine zh ?_|refine zi ?_|refine za ?_|refine zf ?_|refine zxg ?_|refine zd rfl ?_|refine zbZ rfl ?_|refine zg ?_|refine WL_m rfl (zm hty rfl rfl rfl (by assumption) rfl) ?_|refine zb rfl ?_)
    all_goals rename_i hq
    ·refine⟨hkl,by rw[zj6 _ _ _ hd,hJ,hq];rfl,(zfY ⟨zz rfl rfl,zz rfl rfl,zz rfl rfl,zz rfl rfl,zz rfl rfl,zz rfl rfl,zz rfl rfl,zz rfl rfl,zz rfl rfl,zz rfl rfl,zz rfl rfl,⟨_,rfl,zO ?_ rfl⟩,trivial⟩ ⟨zw rfl rfl,zw rfl rfl,zw rfl rfl,trivial⟩)⟩
     exact congrArg (AV.int .i64) ((zy (by omega) (by omega)).trans (by omega))
    ·exact(hbad (by rw[hpa,zip _ _ _ hd,hq];simp)).symm
   ·have hc2: ¬(k:Int) <((rsT dd).length:Int):=hc2
    obtain rfl:k=dd.length:=by rw[zeb]at hc2;omega
    rw[List.take_length]at hJ
    have hin:=zjB ⟨b,base,l.take j,0⟩ ((rsT dd).length:Nat) ⟨by show -4194304≤0+((rsT dd).length:Int);omega,by show 0+((rsT dd).length:Int)≤8388608;rw[zeb];omega⟩
    rw[show(⟨b,base,l.take j,0⟩:Pl).inn ((rsT dd).length:Nat)=⟨b,base,l.take j,(dd.length:Nat)⟩ by simp[Pl.inn,zeb],hpe 0]at hin
    have hix:=zha b base (l.take j) (dd.length:Nat) c so ix hb htl ⟨Int.natCast_nonneg _,by omega⟩ ⟨a3,by omega⟩ a5 (fun x hx=>zbT (List.all_eq_true.1 a7 x hx))
    repeat'(first|refine zD (id:=14) zAT rfl (by kernel_rfl) ?_|refine zad 0 rfl hin rfl rfl rfl ?_|refine zan rfl hix rfl (fun _=>?_) (fun _=>?_)|refine zu (.inl ⟨rfl,zI hty rfl rfl⟩) ?_|refine zS ⟨by kernel_rfl,?_⟩|refine WL_p hty rfl rfl ?_|refine zh ?_|refine zi ?_|refine za ?_|refine zxg ?_|refine zd rfl ?_|refine zbZ rfl ?_|refine zl ?_|refine zg ?_|refine zb rfl ?_)
    all_goals rename_i hq
    ·refine⟨hlt,hnext (by rw[hpa,hJ,hq];rfl),(zfY ⟨zz rfl rfl,zz rfl rfl,zz rfl rfl,zz rfl rfl,zz rfl rfl,zz rfl rfl,⟨_,rfl,zO ?_ rfl⟩,trivial⟩ ⟨zw rfl rfl,trivial⟩)⟩
     exact congrArg (AV.int .i64) ((zy (by omega) (by omega)).trans (by omega))
    ·exact(hbad (by rw[hpa,hJ,hq];rfl)).symm
 ·obtain rfl:j=l.length:=by rw[zN]at hc;omega
  repeat'(first|refine WL_p hty rfl rfl ?_|refine zh ?_|refine zi ?_|refine za ?_|refine zbZ rfl ?_|refine zl ?_|refine zg ?_|refine zb rfl ?_)
  exact(zhx.2 fun i a ha=>hI i a (List.getElem?_eq_some_iff.1 ha).1 ha).symm
end Go.Proofs.YtokfbblhjpfjkaaGreat
namespace Go.Proofs.YtokfbblhjpfjkaaGreat
open Go.Aw Go.RowKit
attribute [local irreducible] WL AC WD WE MStep OkOp zay zfg
def zdl(b:Bl)(base:Int)(s:Sr):Bool:=ziH b base 0 s.idx&&(!s.dec||zay b base s.idx 0 s.decT)
def zgS(b:Bl)(base c:Int)(x:Cn):Bool:=ziH b base c x.args&&(zi3 b base x.args 0 c x.sort x.idx&&(!(decS b x.sort)||zay b base x.args 0 x.dec))
def zfJ(b:Bl)(base:Int):Bool:=(List.range b.cons.length).all fun i=>match b.cons[i]? with
 |some x=>zgS b base (i:Nat) x
 |none=>true
theorem zDV{b:Bl}{base:Int}:zfJ b base=true↔ ∀ (i:Nat) (x:Cn),b.cons[i]? =some x→zgS b base (i:Nat) x=true:=by
 unfold zfJ
 rw[List.all_eq_true]
 constructor
 ·intro h i a ha
  have:=h i (List.mem_range.2 (List.getElem?_eq_some_iff.1 ha).1)
  rwa[ha]at this
 ·intro h i hi
  obtain⟨a,ha,_⟩:=zA (List.mem_range.1 hi)
  rw[ha];exact h i a ha
def zbz(b:Bl)(base:Int):Int:=if zaS b=true then(if base <0 then 1 else if 65535 <base then 1 else if(b.sorts.all (zdl b base)&&zfJ b base)=true then 0 else 11)else 12
theorem ze1{b:Bl}(h:zaS b=true){k:Nat}{s:Sr}(hs:b.sorts[k]? =some s):sortB b k s=true:=by
 simp only[zaS,Bool.and_eq_true]at h
 have:=zcz.1 h.2.2.2.1 k s hs
 rwa[Nat.zero_add]at this
theorem zfp{b:Bl}(h:zaS b=true){c:Cn}(hc:c∈b.cons):zel b c=true:=by
 simp only[zaS,Bool.and_eq_true]at h
 exact List.all_eq_true.1 h.2.2.2.2 c hc
theorem zlb{b:Bl}{k:Nat}{s:Sr}(h:sortB b k s=true):zaT b 0 s.idx=true:=by
 simp only[sortB,zkK,Bool.and_eq_true]at h
 exact h.1.2
theorem zk9{b:Bl}{k:Nat}{s:Sr}(h:sortB b k s=true)(hd:s.dec=true):openT s.decT s.idx.length=true:=by
 simp only[sortB,zeE,Bool.and_eq_true,hd,if_true]at h
 exact h.2.2.1
theorem zkf{b:Bl}{c:Cn}(h:zel b c=true):(0≤c.sort∧c.sort.toNat <b.sorts.length)∧c.idx.length=idxN b c.sort∧zaT b 0 c.args=true∧(∀ x,x∈c.idx→openT x c.args.length=true)∧(decS b c.sort=true→openT c.dec c.args.length=true):=by
 simp only[zel,inR,Bool.and_eq_true,decide_eq_true_eq]at h
 obtain⟨⟨⟨h1,h2⟩,h3,h4⟩,h5,h6,h7⟩:=h
 refine⟨⟨h1,by omega⟩,h4,h5,fun x hx=>List.all_eq_true.1 h6 x hx,fun hd=>?_⟩
 rw[if_pos hd]at h7
 exact h7
set_option maxRecDepth 4000 in
set_option maxHeartbeats 8000000 in
theorem znv(b:Bl)(base:Int)(hb:b.size≤1048576):FC Tryz.prog 114 [aB b,.int .i64 base] (.int .i64 (zbz b base)):=by
 have hsc:=znr b hb
 have hb':b.size=zbh b.sorts+zbg b.cons:=rfl
 have hsl:=zaa b.sorts
 have hcl:=zak b.cons
 by_cases hsh:zaS b=true
 case neg=>
  rw[if_neg hsh]at hsc
  have hp:zbz b base=12:=by unfold zbz;rw[if_neg hsh]
  rw[hp]
  refine zo hty Tryz.func114 rfl rfl rfl fun w0=>?_
  repeat'(first|exact absurd (show(12:Int)≠0 by decide) ‹_›|refine zv 0 rfl hsc rfl rfl rfl ?_|refine WL_p hty rfl rfl ?_|refine zh ?_|refine zi ?_|refine za ?_|refine zf ?_|refine zd rfl ?_|refine zg ?_|refine zj rfl rfl rfl rfl (fun _=>?_) (fun _=>?_))
  exact zaQ rfl rfl
 rw[if_pos hsh]at hsc
 have hp:zbz b base=if base <0 then 1 else if 65535 <base then 1 else if(b.sorts.all (zdl b base)&&zfJ b base)=true then 0 else 11:=by unfold zbz;rw[if_pos hsh]
 rw[hp]
 refine zo hty Tryz.func114 rfl rfl rfl fun w0=>?_
 repeat'(first|exact absurd rfl ‹_›|refine zv 0 rfl hsc rfl rfl rfl ?_|refine WL_p hty rfl rfl ?_|refine zh ?_|refine zi ?_|refine za ?_|refine zf ?_|refine zxg ?_|refine zd rfl ?_|refine zbZ rfl ?_|refine zg ?_|refine zx rfl rfl ?_|refine zot rfl rfl rfl ?_|refine zj rfl rfl rfl rfl (fun _=>?_) (fun _=>?_))
 ·rw[if_pos (by assumption)];exact zaQ rfl rfl
 ·rw[if_neg (by assumption),if_pos (by assumption)];exact zaQ rfl rfl
 rename_i b1 b2
 rw[if_neg b1,if_neg b2]
 refine zW b.sorts.length (fun j=> ∀ (i:Nat) (s:Sr),i <j→b.sorts[i]? =some s→zdl b base s=true)
  (fun j=>⟨envOf [(1,.int .i64 base),(2,.ptr 2 0),(26,sS b.sorts),(27,.int .i64 ((zY b.sorts).length:Nat)),(28,.int .i64 (j:Nat))],bkOf [(2,.box (cB b))]⟩)
  (zfY ⟨zz rfl rfl,zz rfl rfl,zz rfl rfl,zz rfl rfl,zz rfl rfl,trivial⟩ ⟨zw rfl rfl,trivial⟩) (fun i s hi=>absurd hi (Nat.not_lt_zero _)) ?_
 intro j hj hI
 repeat'(first|refine zi ?_|refine za ?_)
 refine zj rfl rfl rfl rfl (fun hc=>?_) (fun hc=>?_)
 ·have hlt:j <b.sorts.length:=by rw[zQ]at hc;omega
  obtain⟨s,hs,hsm⟩:=zA hlt
  have rs:=zaK hs
  have hsz:=zat hsm
  have hs2:s.size=zaH s.idx+s.decT.size:=rfl
  have hla:=zae s.idx
  have hsb:=ze1 hsh hs
  have hrow:=zkY b base 0 s.idx hb (by omega) (zlb hsb)
  have hnext:zdl b base s=true→ ∀ (i:Nat) (s:Sr),i <j+1→b.sorts[i]? =some s→zdl b base s=true:=fun hp i u hi hu=>by
   rcases Nat.lt_or_ge i j with q|q
   ·exact hI i u q hu
   ·obtain rfl:i=j:=by omega
    rw[hs]at hu
    obtain rfl:=Option.some.inj hu
    exact hp
  have hbad:zdl b base s=false→ ¬(b.sorts.all (zdl b base)&&zfJ b base)=true:=fun hp q=>by
   simp only[Bool.and_eq_true]at q
   rw[List.all_eq_true.1 q.1 s hsm]at hp;cases hp
  have hcl2:s.dec=true→FC Tryz.prog 150 [aP ⟨b,base,s.idx,0⟩,aT s.decT] (.bool (zay b base s.idx 0 s.decT)):=fun hd=>by
   obtain⟨o1,o2,o3⟩:=zbT (zk9 hsb hd)
   exact zcv b base s.idx 0 s.decT hb (by omega) (by omega) o3 (by omega) (by omega)
  have hsp:zdl b base s=(ziH b base 0 s.idx&&(!s.dec||zay b base s.idx 0 s.decT)):=rfl
  obtain⟨sx,sl,sd,st⟩:=s
  cases sd
  ·repeat'(first|refine zL rfl hrow rfl (fun _=>?_) (fun _=>?_)|refine WL_p hty rfl rfl ?_|refine zh ?_|refine zi ?_|refine za ?_|refine zf ?_|refine zxg ?_|refine zd rfl ?_|refine zbZ rfl ?_|refine zg ?_|refine zx rfl rfl ?_|refine zq rfl rfl rfl ?_|refine zot rfl rfl rfl ?_|refine zr rfl rfl rfl ?_|refine WL_m rfl (zm hty rfl rfl rfl (by assumption) rfl) ?_)
   ·rename_i hq
    refine⟨hlt,hnext (by rw[hsp,hq];rfl),(zfY ⟨zz rfl rfl,zz rfl rfl,zz rfl rfl,zz rfl rfl,⟨_,rfl,zO ?_ rfl⟩,trivial⟩ ⟨zw rfl rfl,trivial⟩)⟩
    exact congrArg (AV.int .i64) ((zy (by omega) (by omega)).trans (by omega))
   ·rename_i hq
    refine zaQ rfl ?_
    rw[if_neg (hbad (by rw[hsp,hq];rfl))]
  ·have hcl3:=hcl2 rfl
   repeat'(first|refine zL rfl hrow rfl (fun _=>?_) (fun _=>?_)|refine zL rfl hcl3 rfl (fun _=>?_) (fun _=>?_)|refine WL_p hty rfl rfl ?_|refine zh ?_|refine zi ?_|refine za ?_|refine zf ?_|refine zxg ?_|refine zd rfl ?_|refine zbZ rfl ?_|refine zg ?_|refine zx rfl rfl ?_|refine zot rfl rfl rfl ?_|refine zr rfl rfl rfl ?_|refine WL_m rfl (zm hty rfl rfl rfl (by assumption) rfl) ?_)
   ·rename_i hq hq2
    refine⟨hlt,hnext (by rw[hsp,hq,hq2];rfl),(zfY ⟨zz rfl rfl,zz rfl rfl,zz rfl rfl,zz rfl rfl,⟨_,rfl,zO ?_ rfl⟩,trivial⟩ ⟨zw rfl rfl,trivial⟩)⟩
    exact congrArg (AV.int .i64) ((zy (by omega) (by omega)).trans (by omega))
   ·rename_i hq hq2
    refine zaQ rfl ?_
    rw[if_neg (hbad (by rw[hsp,hq,hq2];rfl))]
   ·rename_i hq
    refine zaQ rfl ?_
    rw[if_neg (hbad (by rw[hsp,hq];rfl))]
 ·obtain rfl:j=b.sorts.length:=by rw[zQ]at hc;omega
  have hall:b.sorts.all (zdl b base)=true:=List.all_eq_true.2 fun s hs=>by
   obtain⟨i,hi,rfl⟩:=List.mem_iff_getElem.1 hs
   exact hI i _ hi (List.getElem?_eq_getElem hi)
  rw[hall,Bool.true_and]
  repeat'(first|refine WL_p hty rfl rfl ?_|refine zh ?_|refine zi ?_|refine za ?_|refine zf ?_|refine zbZ rfl ?_|refine zl ?_)
  refine zW b.cons.length (fun j=> ∀ (i:Nat) (x:Cn),i <j→b.cons[i]? =some x→zgS b base (i:Nat) x=true)
   (fun j=>⟨envOf [(1,.int .i64 base),(2,.ptr 2 0),(56,sC b.cons),(57,.int .i64 ((rsC b.cons).length:Nat)),(58,.int .i64 (j:Nat))],bkOf [(2,.box (cB b))]⟩)
   (zfY ⟨zz rfl rfl,zz rfl rfl,zz rfl rfl,zz rfl rfl,zz rfl rfl,trivial⟩ ⟨zw rfl rfl,trivial⟩) (fun i s hi=>absurd hi (Nat.not_lt_zero _)) ?_
  intro j hj hI
  repeat'(first|refine zi ?_|refine za ?_)
  refine zj rfl rfl rfl rfl (fun hc=>?_) (fun hc=>?_)
  ·have hlt:j <b.cons.length:=by rw[zZ]at hc;omega
   obtain⟨x,hx,hxm⟩:=zA hlt
   have rx:=zby hx
   have hsz:=zaB hxm
   have hs2:x.size=zaH x.args+sizes x.idx+x.dec.size:=rfl
   have hla:=zae x.args
   obtain⟨f1,f2,f3,f4,f5⟩:=zkf (zfp hsh hxm)
   obtain⟨s,hs,_⟩:=zA f1.2
   have rs:=zaK hs
   have hds:decS b x.sort=s.dec:=by unfold decS;rw[hs]
   have hrow:=zkY b base (j:Nat) x.args hb (by omega) f3
   have hidx:=zha b base x.args 0 (j:Nat) x.sort x.idx hb (by omega) ⟨by omega,by omega⟩ f1 f2 (fun y hy=>zbT (f4 y hy))
   have hnext:zgS b base (j:Nat) x=true→ ∀ (i:Nat) (x:Cn),i <j+1→b.cons[i]? =some x→zgS b base (i:Nat) x=true:=fun hp i u hi hu=>by
    rcases Nat.lt_or_ge i j with q|q
    ·exact hI i u q hu
    ·obtain rfl:i=j:=by omega
     rw[hx]at hu
     obtain rfl:=Option.some.inj hu
     exact hp
   have hbad:zgS b base (j:Nat) x=false→ ¬zfJ b base=true:=fun hp q=>by
    rw[zDV.1 q j x hx]at hp;cases hp
   have hcl2:s.dec=true→FC Tryz.prog 150 [aP ⟨b,base,x.args,0⟩,aT x.dec] (.bool (zay b base x.args 0 x.dec)):=fun hd=>by
    obtain⟨o1,o2,o3⟩:=zbT (f5 (hds.trans hd))
    exact zcv b base x.args 0 x.dec hb (by omega) (by omega) o3 (by omega) (by omega)
   have hsp:zgS b base (j:Nat) x=(ziH b base (j:Nat) x.args&&(zi3 b base x.args 0 (j:Nat) x.sort x.idx&&(!s.dec||zay b base x.args 0 x.dec))):=by unfold zgS;rw[hds]
   obtain⟨sx,sl,sd,st⟩:=s
   cases sd
   ·repeat'(first|refine zL rfl hrow rfl (fun _=>?_) (fun _=>?_)|refine zL rfl hidx rfl (fun _=>?_) (fun _=>?_)|refine WL_m rfl (zaq hty rfl rfl rfl f1.1 rs rfl) ?_|refine WL_p hty rfl rfl ?_|refine zh ?_|refine zi ?_|refine za ?_|refine zf ?_|refine zxg ?_|refine zd rfl ?_|refine zbZ rfl ?_|refine zg ?_|refine zx rfl rfl ?_|refine zq rfl rfl rfl ?_|refine zot rfl rfl rfl ?_|refine zr rfl rfl rfl ?_|refine WL_m rfl (zm hty rfl rfl rfl (by assumption) rfl) ?_)
    ·rename_i hq hq2
     refine⟨hlt,hnext (by rw[hsp,hq,hq2];rfl),(zfY ⟨zz rfl rfl,zz rfl rfl,zz rfl rfl,zz rfl rfl,⟨_,rfl,zO ?_ rfl⟩,trivial⟩ ⟨zw rfl rfl,trivial⟩)⟩
     exact congrArg (AV.int .i64) ((zy (by omega) (by omega)).trans (by omega))
    ·rename_i hq hq2
     refine zaQ rfl ?_
     rw[if_neg (hbad (by rw[hsp,hq,hq2];rfl))]
    ·rename_i hq
     refine zaQ rfl ?_
     rw[if_neg (hbad (by rw[hsp,hq];rfl))]
   ·have hcl3:=hcl2 rfl
    repeat'(first|refine zL rfl hrow rfl (fun _=>?_) (fun _=>?_)|refine zL rfl hidx rfl (fun _=>?_) (fun _=>?_)|refine zL rfl hcl3 rfl (fun _=>?_) (fun _=>?_)|refine WL_m rfl (zaq hty rfl rfl rfl f1.1 rs rfl) ?_|refine WL_p hty rfl rfl ?_|refine zh ?_|refine zi ?_|refine za ?_|refine zf ?_|refine zxg ?_|refine zd rfl ?_|refine zbZ rfl ?_|refine zg ?_|refine zx rfl rfl ?_|refine zot rfl rfl rfl ?_|refine zr rfl rfl rfl ?_|refine WL_m rfl (zm hty rfl rfl rfl (by assumption) rfl) ?_)
    ·rename_i hq hq2 hq3
     refine⟨hlt,hnext (by rw[hsp,hq,hq2,hq3];rfl),(zfY ⟨zz rfl rfl,zz rfl rfl,zz rfl rfl,zz rfl rfl,⟨_,rfl,zO ?_ rfl⟩,trivial⟩ ⟨zw rfl rfl,trivial⟩)⟩
     exact congrArg (AV.int .i64) ((zy (by omega) (by omega)).trans (by omega))
    ·rename_i hq hq2 hq3
     refine zaQ rfl ?_
     rw[if_neg (hbad (by rw[hsp,hq,hq2,hq3];rfl))]
    ·rename_i hq hq2
     refine zaQ rfl ?_
     rw[if_neg (hbad (by rw[hsp,hq,hq2];rfl))]
    ·rename_i hq
     refine zaQ rfl ?_
     rw[if_neg (hbad (by rw[hsp,hq];rfl))]
  ·obtain rfl:j=b.cons.length:=by rw[zZ]at hc;omega
   have hcp:zfJ b base=true:=zDV.2 fun i x hx=>hI i x (List.getElem?_eq_some_iff.1 hx).1 hx
   repeat'(first|refine WL_p hty rfl rfl ?_|refine zh ?_|refine zi ?_|refine za ?_|refine zbZ rfl ?_|refine zl ?_|refine zg ?_)
   refine zaQ rfl ?_
   rw[if_pos hcp]
end Go.Proofs.YtokfbblhjpfjkaaGreat
namespace Go.Proofs.YtokfbblhjpfjkaaGreat
open Go.Aw Go.RowKit
attribute [local irreducible] WL AC WD WE MStep OkOp
def zB:Bl:=⟨[],[],0⟩
def zce(e:En):Int:=if e.kind=3 then zca e.block e.base e.which else if e.kind=4 then zaL e.block e.base e.which else if e.kind=5 then zaO e.block e.base e.which else zaz e.block e.base e.which
def zcj(e:En)(i:Int):Bool:=zcY e.typ 0 i&&(if e.kind=1 then decide (e.base=0)&&(decide (e.which=0)&&(decide (e.block=zB)&&decide (e.body=zT)))
 else if e.kind=2 then decide (e.base=0)&&(decide (e.which=0)&&(decide (e.block=zB)&&zcY e.body 0 i))
 else if e.kind=3∨e.kind=4∨e.kind=5∨e.kind=6 then decide (e.body=zT)&&(decide (0≤e.base)&&decide (zce e=i))else false)
theorem zrA(b:Bl)(hb:b.size≤1048576):FC Tryz.prog 104 [aB b] (.bool (decide (b=zB))):=by
 unfold Bl.size at hb
 have hsl:=zaa b.sorts
 have hcl:=zak b.cons
 obtain⟨ss,cc,el⟩:=b
 simp only at hb hsl hcl
 have hw:IntKind.i64.wrap (((zY ss).length:Int)+(rsC cc).length)=(ss.length:Int)+cc.length:=by rw[zQ,zZ];exact zy (by omega) (by omega)
 refine zo hty Tryz.func104 rfl rfl rfl fun w0=>?_
 repeat'(first|refine WL_p hty rfl rfl ?_|refine zh ?_|refine zi ?_|refine za ?_|refine zg ?_|refine zx rfl rfl ?_|refine zq rfl rfl rfl ?_|refine zb rfl ?_|refine zj rfl rfl rfl rfl (fun _=>?_) (fun _=>?_))
 ·rename_i h1 h2
  have h1:IntKind.i64.wrap (((zY ss).length:Int)+(rsC cc).length)=0:=h1
  have h2:el=0:=h2
  rw[hw]at h1
  have e1:ss=[]:=List.length_eq_zero_iff.1 (by omega)
  have e2:cc=[]:=List.length_eq_zero_iff.1 (by omega)
  rw[e1,e2,h2];exact(decide_eq_true rfl).symm
 ·rename_i h1 h2
  exact(decide_eq_false fun q=>h2 (congrArg Bl.elim q)).symm
 ·rename_i h1
  refine(decide_eq_false fun q=>h1 ?_).symm
  show IntKind.i64.wrap (((zY ss).length:Int)+(rsC cc).length)=0
  rw[hw]
  have e1:ss=[]:=congrArg Bl.sorts q
  have e2:cc=[]:=congrArg Bl.cons q
  rw[e1,e2];rfl
theorem zol(e:En)(hb:e.block.size≤1048576):FC Tryz.prog 106 [aE e] (.int .i64 (zce e)):=by
 refine zo hty Tryz.func106 rfl rfl rfl fun w0=>?_
 repeat'(first|refine zv 0 rfl (zit e.block e.base e.which hb) rfl rfl rfl ?_|refine zv 0 rfl (zhq e.block e.base e.which hb) rfl rfl rfl ?_|refine zv 0 rfl (zer e.block e.base e.which hb) rfl rfl rfl ?_|refine zv 0 rfl (zdo e.block e.base e.which hb) rfl rfl rfl ?_|refine WL_p hty rfl rfl ?_|refine zh ?_|refine zi ?_|refine za ?_|refine zf ?_|refine zxg ?_|refine zd rfl ?_|refine zbZ rfl ?_|refine zg ?_|refine zj rfl rfl rfl rfl (fun _=>?_) (fun _=>?_))
 all_goals refine zaQ rfl ?_
 all_goals unfold zce
 all_goals first
  |(rw[if_pos (by assumption)];done)
  |(rw[if_neg (by assumption),if_pos (by assumption)];done)
  |(rw[if_neg (by assumption),if_neg (by assumption),if_pos (by assumption)];done)
  |(rw[if_neg (by assumption),if_neg (by assumption),if_neg (by assumption)];done)
set_option maxHeartbeats 4000000 in
theorem zoR(e:En)(i:Int)(hs:e.size≤1048576):FC Tryz.prog 73 [aE e,.int .i64 i] (.bool (zcj e i)):=by
 have hs':e.size=e.typ.size+e.body.size+e.block.size:=rfl
 have h1:=zfe e.typ 0 i (by omega)
 have h2:=zfe e.body 0 i (by omega)
 have h3:=zeL e.body
 have h4:=zrA e.block (by omega)
 have h5:=zol e (by omega)
 refine zo hty Tryz.func73 rfl rfl rfl fun w0=>?_
 repeat'(first|refine zL rfl h1 rfl (fun _=>?_) (fun _=>?_)|refine zL rfl h2 rfl (fun _=>?_) (fun _=>?_)|refine zL rfl h3 rfl (fun _=>?_) (fun _=>?_)|refine zL rfl h4 rfl (fun _=>?_) (fun _=>?_)|refine zv 0 rfl h5 rfl rfl rfl ?_|refine WL_p hty rfl rfl ?_|refine zh ?_|refine zi ?_|refine za ?_|refine zf ?_|refine zxg ?_|refine zd rfl ?_|refine zbZ rfl ?_|refine zg ?_|refine zx rfl rfl ?_|refine zq rfl rfl rfl ?_|refine zb rfl ?_|refine zj rfl rfl rfl rfl (fun _=>?_) (fun _=>?_))
 all_goals unfold zcj
 all_goals simp[*]
end Go.Proofs.YtokfbblhjpfjkaaGreat
namespace Go.Proofs.YtokfbblhjpfjkaaGreat
open Go.Aw Go.RowKit
def zAi:List (Nat×List Nat):=[(0,[]),(1,[]),(2,[0,1]),(3,[0,1,2]),(4,[0,1,2,3]),(5,[0,1,2,3,4]),(6,[0,1,2,3,4,5]),(7,[0,1,2,3,4]),(8,[0,1,2,3,4]),(9,[0,1,2,3,4,5,6,8]),(10,[0,1,2,3,4,5,6,7,8,9]),(11,[0,1,2,3,4,5,6,7,8,9,10]),(12,[0,1,2,3,4,5,6,7,8,9,10,11]),(13,[0,1,2,3,4,5,6,7,8,9,10,11,12])]
attribute [local irreducible] WL AC WD WE MStep OkOp
theorem zdH{t:Tm}{v:Int}(h:openT t v=true):okN t=true:=by
 simp only[openT,zcY,Bool.and_eq_true,decide_eq_true_eq]at h
 exact zjX t (zeD h.2.2.1)
theorem zv7:okN zT=true:=rfl
theorem zig: ∀ {l:List Tm} {i:Int},zCc i l=true→ ∀ t,t∈l→okN t=true
 |[],_,_,t,ht=>by cases ht
 |a::l,i,h,t,ht=>by
  rw[zCc,Bool.and_eq_true]at h
  rcases List.mem_cons.1 ht with rfl|ht
  ·exact zdH h.1
  ·exact zig h.2 t ht
theorem zsz{b:Bl}{a:Ar}{i:Int}(h:zbQ b a i=true): ∀ t,t∈zpf a→okN t=true:=by
 intro t ht
 unfold zbQ at h
 split at h
 ·simp only[Bool.and_eq_true,decide_eq_true_eq]at h
  obtain⟨⟨h1,_⟩,h2,h3⟩:=h
  rcases List.mem_cons.1 ht with rfl|ht
  ·rw[h1];rfl
  ·rcases List.mem_append.1 ht with ht|ht
   ·exact zig h2 t ht
   ·exact zdH (List.all_eq_true.1 h3 t ht)
 ·simp only[Bool.and_eq_true,decide_eq_true_eq]at h
  obtain⟨h1,h2,_⟩:=h
  rcases List.mem_cons.1 ht with rfl|ht
  ·exact zdH h1
  ·have e1:a.dom=[]:=List.length_eq_zero_iff.1 (by omega)
   have e2:a.idx=[]:=List.length_eq_zero_iff.1 (by omega)
   rw[e1,e2]at ht;cases ht
theorem zgI{b:Bl}: ∀ {l:List Ar} {i:Int},zaT b i l=true→ ∀ t,t∈zaN l→okN t=true
 |[],_,_,t,ht=>by cases ht
 |a::l,i,h,t,ht=>by
  rw[zaT,Bool.and_eq_true]at h
  unfold zaN at ht
  rw[List.flatMap_cons]at ht
  rcases List.mem_append.1 ht with ht|ht
  ·exact zsz h.1 t ht
  ·exact zgI h.2 t ht
theorem zrr{b:Bl}(h:zaS b=true): ∀ t,t∈zbK b→okN t=true:=by
 intro t ht
 rcases List.mem_append.1 ht with ht|ht
 ·obtain⟨s,hs,ht⟩:=List.mem_flatMap.1 ht
  obtain⟨k,hk⟩:=List.getElem?_of_mem hs
  have hb:=ze1 h hk
  simp only[sortB,zkK,Bool.and_eq_true]at hb
  rcases List.mem_cons.1 ht with rfl|ht
  ·have:=hb.2.2.1
   unfold zeE at this
   split at this
   ·exact zdH this
   ·rw[decide_eq_true_eq]at this;rw[this];rfl
  ·exact zgI hb.1.2 t ht
 ·obtain⟨c,hc,ht⟩:=List.mem_flatMap.1 ht
  have hb:=zfp h hc
  simp only[zel,Bool.and_eq_true]at hb
  rcases List.mem_cons.1 ht with rfl|ht
  ·have:=hb.2.2.2
   split at this
   ·exact zdH this
   ·rw[decide_eq_true_eq]at this;rw[this];rfl
  ·rcases List.mem_append.1 ht with ht|ht
   ·exact zdH (List.all_eq_true.1 hb.2.2.1 t ht)
   ·exact zgI hb.2.1 t ht
theorem zg5{b:Bl}{base:Int}(h:zbz b base=0):zaS b=true:=by
 unfold zbz at h
 split at h
 ·assumption
 ·cases h
theorem ziq{b:Bl}{base:Int}(h:zbz b base=0):0≤base∧base≤65535:=by
 unfold zbz at h
 split at h
 ·split at h
  ·cases h
  ·split at h
   ·cases h
   ·omega
 ·cases h
def zb4(b:Bl)(base:Int):Bool:=decide (zbz b base=0)&&decide (zkb b <base+(countN b:Nat))
theorem zhQ(b:Bl)(h:b.size≤1048576):countN b≤4194304:=by
 unfold Bl.size at h
 have h1:=zaa b.sorts
 have h2:=zak b.cons
 have h3:=zbN b.sorts
 unfold countN;omega
set_option maxHeartbeats 4000000 in
theorem zoM(b:Bl)(base:Int)(hb:b.size≤1048576):FC Tryz.prog 75 [aB b,.int .i64 base] (.bool (zb4 b base)):=by
 have h1:=znv b base hb
 have h3:=zgG b hb
 have h4:=zhQ b hb
 by_cases hp:zbz b base=0
 ·have h2:=zpQ b hb (zrr (zg5 hp))
  have h5:=ziq hp
  have hw:IntKind.i64.wrap (base+(countN b:Nat))=base+(countN b:Nat):=zy (by omega) (by omega)
  refine zo hty Tryz.func75 rfl rfl rfl fun w0=>?_
  repeat'(first|exact absurd hp (by assumption)|refine zD (id:=1) zAi rfl (by kernel_rfl) ?_|refine zad 0 rfl h1 rfl rfl rfl ?_|refine zad 0 rfl h2 rfl rfl rfl ?_|refine zad 0 rfl h3 rfl rfl rfl ?_|refine zu (.inl ⟨rfl,zI hty rfl rfl⟩) ?_|refine zaG rfl rfl ?_|refine zS ⟨by kernel_rfl,?_⟩|refine WL_p hty rfl rfl ?_|refine zh ?_|refine zi ?_|refine za ?_|refine zg ?_|refine zb rfl ?_|refine zaC rfl rfl rfl rfl (fun _=>?_) (fun _=>?_))
  all_goals simp[zb4,hp]
  all_goals(rw[hw]at*;omega)
 ·refine zo hty Tryz.func75 rfl rfl rfl fun w0=>?_
  repeat'(first|exact absurd (by assumption) hp|refine zD (id:=1) zAi rfl (by kernel_rfl) ?_|refine zad 0 rfl h1 rfl rfl rfl ?_|refine zu (.inl ⟨rfl,zI hty rfl rfl⟩) ?_|refine zau rfl rfl rfl ?_|refine zS ⟨by kernel_rfl,?_⟩|refine WL_p hty rfl rfl ?_|refine zh ?_|refine zi ?_|refine za ?_|refine zg ?_|refine zb rfl ?_|refine zaC rfl rfl rfl rfl (fun _=>?_) (fun _=>?_))
  all_goals simp[zb4,hp]
def zfm(f:Int→Option Bl)(e:En):Int→Option Bl:=if e.kind <3 then f else fun i=>if i=e.base then some e.block else f i
def zCu(l:List En):Int→Option Bl:=l.foldl zfm (fun _=>none)
theorem zjG{l:List En}{i:Nat}{e:En}(h:l[i]? =some e):zCu (l.take (i+1))=zfm (zCu (l.take i)) e:=by
 unfold zCu
 rw[List.take_add_one,h,Option.toList_some,List.foldl_append];rfl
def zhC:List En→Nat
 |[]=>0
 |e::l=>(if e.kind <3 then 0 else 1)+zhC l
theorem zrk{l:List En}{i:Nat}{e:En}(h:l[i]? =some e):zhC (l.take (i+1))=zhC (l.take i)+(if e.kind <3 then 0 else 1):=by
 rw[List.take_add_one,h,Option.toList_some]
 have: ∀ (x:List En),zhC (x++[e])=zhC x+(if e.kind <3 then 0 else 1):=by
  intro x
  induction x with
  |nil=>simp[zhC]
  |cons a x ih=>simp only[List.cons_append,zhC,ih];omega
 exact this _
theorem zqh: ∀ l:List En,zhC l≤l.length
 |[]=>Nat.le_refl _
 |e::l=>by
  have:=zqh l
  simp only[zhC,List.length_cons];split <;>omega
def zfH(seen:Int→Option Bl)(e:En):Bool:=match seen e.base with
 |some b=>decide (b=e.block)
 |none=>zb4 e.block e.base
def zbG(seen:Int→Option Bl)(e:En)(i:Int):Bool:=zcj e i&&(decide (e.kind <3)||zfH seen e)
def zcQ:(Int→Option Bl)→Nat→List En→Bool
 |_,_,[]=>true
 |f,i,e::l=>zbG f e i&&zcQ (zfm f e) (i+1) l
def envI(l:List En):Int:=if 200 <l.length then 13 else if zcQ (fun _=>none) 0 l=true then 0 else 12
theorem zfL: ∀ {l:List En} {j:Nat} {e:En},l[j]? =some e→ ∀ (f:Int→Option Bl) (i:Nat),zcQ f i l=(zcQ f i (l.take j)&&(zbG ((l.take j).foldl zfm f) e ((i+j:Nat):Int)&&zcQ (zfm ((l.take j).foldl zfm f) e) (i+j+1) (l.drop (j+1))))
 |[],_,_,h,_,_=>by simp at h
 |a::l,0,e,h,f,i=>by
  obtain rfl:=Option.some.inj (show some a=some e from h)
  simp[zcQ]
 |a::l,j+1,e,h,f,i=>by
  have h':l[j]? =some e:=by simpa using h
  have:=zfL h' (zfm f a) (i+1)
  simp only[List.take_succ_cons,List.drop_succ_cons,List.foldl_cons,zcQ]
  rw[this,Bool.and_assoc,show i+1+j=i+(j+1) by omega]
theorem zkj{l:List En}{j:Nat}{e:En}(h:l[j]? =some e):zcQ (fun _=>none) 0 (l.take (j+1))=(zcQ (fun _=>none) 0 (l.take j)&&zbG (zCu (l.take j)) e (j:Nat)):=by
 have hlt:j <l.length:=(List.getElem?_eq_some_iff.1 h).1
 have h2:(l.take (j+1))[j]? =some e:=by rw[List.getElem?_take_of_lt (by omega)];exact h
 rw[zfL h2 (fun _=>none) 0,List.take_take,Nat.min_eq_left (by omega),List.drop_eq_nil_of_le (by rw[List.length_take];omega)]
 simp[zcQ,zCu]
theorem zk2{l:List En}{j:Nat}{e:En}(h:l[j]? =some e)(hn:zbG (zCu (l.take j)) e (j:Nat)=false):zcQ (fun _=>none) 0 l=false:=by
 rw[zfL h (fun _=>none) 0]
 unfold zCu at hn
 rw[show((0+j:Nat):Int)=(j:Nat) by omega,hn];simp
theorem zea{base a k m i:Int}(h:zb3 base a k m=i)(hi:0≤i):0≤base∧base≤65535:=by
 unfold zb3 at h
 split at h
 ·omega
 ·split at h <;>omega
theorem zif{e:En}{i:Int}(h:zce e=i)(hi:0≤i):0≤e.base∧e.base≤65535:=by
 unfold zce at h
 split at h
 ·exact zea h hi
 ·split at h
  ·unfold zaL at h
   split at h
   ·omega
   ·split at h
    ·omega
    ·split at h
     ·exact zea h hi
     ·omega
  ·split at h
   ·exact zea h hi
   ·exact zea h hi
theorem zpw{e:En}{i:Int}(h:zcj e i=true)(hk: ¬e.kind <3)(hi:0≤i):0≤e.base∧e.base≤65535:=by
 unfold zcj at h
 rw[Bool.and_eq_true]at h
 have h:=h.2
 rw[if_neg (by omega),if_neg (by omega)]at h
 split at h
 ·simp only[Bool.and_eq_true,decide_eq_true_eq]at h
  exact zif h.2.2 hi
 ·cases h
def zkz(f:Int→Option Bl):Int→Option AV:=fun i=>(f i).map aB
theorem ztt{f:Int→Option Bl}{e:En}(h: ¬e.kind <3):zgq (zkz f) e.base (aB e.block)=zkz (zfm f e):=by
 funext i
 unfold zgq zkz zfm
 rw[if_neg h]
 by_cases e1:i=e.base
 ·rw[if_pos e1,if_pos e1];rfl
 ·rw[if_neg e1,if_neg e1]
theorem zln:Tryz.prog.underlying 106=some (.map 3 47):=by kernel_rfl
theorem zsa(l:List En){x:Int}{b:Bl}(h:zCu l x=some b): ∃ e,e∈l∧e.block=b:=by
 have: ∀ (l:List En) (f:Int→Option Bl),l.foldl zfm f x=some b→f x=some b∨ ∃ e,e∈l∧e.block=b:=by
  intro l
  induction l with
  |nil=>intro f h;exact .inl h
  |cons a l ih=>
   intro f h
   rcases ih _ h with q|⟨e,q1,q2⟩
   ·unfold zfm at q
    split at q
    ·exact .inl q
    ·dsimp only at q
     split at q
     ·exact .inr ⟨a,List.mem_cons_self,Option.some.inj q⟩
     ·exact .inl q
   ·exact .inr ⟨e,List.mem_cons_of_mem _ q1,q2⟩
 rcases this l _ h with q|q
 ·cases q
 ·exact q
set_option maxHeartbeats 8000000 in
theorem zsy(l:List En)(hl:zbJ l≤1048576):FC Tryz.prog 46 [sE l] (.int .i64 (envI l)):=by
 have hlen:=zbU l
 by_cases hb:200 <l.length
 ·have he:envI l=13:=by unfold envI;rw[if_pos hb]
  rw[he]
  refine zo hty Tryz.func46 rfl rfl rfl fun w0=>?_
  repeat'(first|(rename_i hc;exact absurd (show((rsE l).length:Int)>200 by rw[zaW];omega) hc)|refine WL_p hty rfl rfl ?_|refine zh ?_|refine zi ?_|refine za ?_|refine zd rfl ?_|refine zg ?_|refine zj rfl rfl rfl rfl (fun _=>?_) (fun _=>?_))
  all_goals exact zaQ rfl rfl
 have he:envI l=if zcQ (fun _=>none) 0 l=true then 0 else 12:=by unfold envI;rw[if_neg hb]
 refine zo hty Tryz.func46 rfl rfl rfl fun w0=>?_
 repeat'(first|(rename_i hc;exact absurd hc (show ¬((rsE l).length:Int)>200 by rw[zaW];omega))|refine WL_m rfl (zj4 50 rfl rfl) ?_|refine WL_p hty rfl rfl ?_|refine zh ?_|refine zi ?_|refine za ?_|refine zf ?_|refine zxg ?_|refine zbZ rfl ?_|refine zj rfl rfl rfl rfl (fun _=>?_) (fun _=>?_))
 refine zW l.length (fun i=>zcQ (fun _=>none) 0 (l.take i)=true) (fun i=>⟨envOf [(3,.mp 50),(12,sE l),(13,.int .i64 ((rsE l).length:Nat)),(14,.int .i64 (i:Nat))],bkOf [(50,.mp none (zhC (l.take i)) (zkz (zCu (l.take i))))]⟩)
  (zfY ⟨zz rfl rfl,zz rfl rfl,zz rfl rfl,zz rfl rfl,trivial⟩ ⟨zw rfl rfl,trivial⟩) rfl ?_
 intro i hi hrow
 repeat'(first|refine zi ?_|refine za ?_)
 refine zj rfl rfl rfl rfl (fun hc=>?_) (fun hc=>?_)
 ·have hlt:i <l.length:=by rw[zaW]at hc;omega
  obtain⟨e,he',hmem⟩:=zA hlt
  have re:=zeM he'
  have hes:=zbn hmem
  have hes':e.size=e.typ.size+e.body.size+e.block.size:=rfl
  have hr:=zoR e (i:Nat) (by omega)
  have hnx:=zkj he'
  rw[hrow,Bool.true_and]at hnx
  have hc1:=zrk he'
  have hs1:=zjG he'
  have hcl:=zqh (l.take i)
  have htl:(l.take i).length≤200:=by rw[List.length_take];omega
  have hml:zhC (l.take i) <maxLen:=Nat.lt_of_le_of_lt (show _≤200 by omega) (by decide)
  have hbad:zbG (zCu (l.take i)) e (i:Nat)=false→(12:Int)=envI l:=fun q=>by rw[he,if_neg (by rw[zk2 he' q];exact Bool.false_ne_true)]
  have hinc:AV.int .i64 (IntKind.i64.wrap ((i:Int)+1))=AV.int .i64 ((i+1:Nat):Int):=congrArg (AV.int .i64) ((zy (by omega) (by omega)).trans (by omega))
  cases hrt:zcj e (i:Nat)with
  |false=>
   rw[hrt]at hr
   have hb0:=hbad (by unfold zbG;rw[hrt];rfl)
   repeat'(first|refine zv 0 rfl hr rfl rfl rfl ?_|refine WL_p hty rfl rfl ?_|refine zh ?_|refine zi ?_|refine za ?_|refine zf ?_|refine zxg ?_|refine zd rfl ?_|refine zg ?_|refine WL_m rfl (zm hty rfl rfl rfl (by assumption) rfl) ?_)
   exact zaQ rfl hb0
  |true=>
   rw[hrt]at hr
   by_cases hk:e.kind <3
   ·have hen:zbG (zCu (l.take i)) e (i:Nat)=true:=by unfold zbG;rw[hrt,decide_eq_true hk];rfl
    repeat'(first|exact absurd hk (by assumption)|refine zv 0 rfl hr rfl rfl rfl ?_|refine WL_p hty rfl rfl ?_|refine zh ?_|refine zi ?_|refine za ?_|refine zf ?_|refine zxg ?_|refine zd rfl ?_|refine zbZ rfl ?_|refine zl ?_|refine WL_m rfl (zm hty rfl rfl rfl (by assumption) rfl) ?_|refine zj rfl rfl rfl rfl (fun _=>?_) (fun _=>?_))
    refine⟨hlt,by rw[hnx,hen],(zfY ⟨zz rfl rfl,zz rfl rfl,zz rfl rfl,⟨_,rfl,zO ?_ rfl⟩,trivial⟩ ⟨⟨⟨_,rfl,.of_eq ?_⟩,rfl⟩,trivial⟩)⟩
    ·exact hinc
    ·rw[hc1,hs1,if_pos hk]
     unfold zfm
     rw[if_pos hk];rfl
   ·have hwf:=zn3 (zpw hrt hk (by omega))
    have hmp:AB.mp none (zhC (l.take i)+1) (zgq (zkz (zCu (l.take i))) e.base (aB e.block))=AB.mp none (zhC (l.take (i+1))) (zkz (zCu (l.take (i+1)))):=by
     rw[hc1,hs1,if_neg hk,ztt hk]
    cases hse:zCu (l.take i) e.base with
    |none=>
     have hlk: ∀ z,Go.Aw.lookV (zkz (zCu (l.take i))) e.base z=.tup [z,.bool false]:=fun z=>by unfold Go.Aw.lookV zkz;rw[hse];rfl
     have hkn:=zoM e.block e.base (by omega)
     have hen:zbG (zCu (l.take i)) e (i:Nat)=zb4 e.block e.base:=by unfold zbG zfH;rw[hrt,hse,decide_eq_false hk];rfl
     cases hkb:zb4 e.block e.base with
     |true=>
      rw[hkb]at hkn hen
      repeat'(first|exact absurd (by assumption) hk|refine zv 0 rfl hr rfl rfl rfl ?_|refine zv 0 rfl hkn rfl rfl rfl ?_|refine WL_m rfl (zf4 hty zln zmL rfl rfl rfl rfl rfl hwf (Nat.le_of_lt hml) (hlk _) rfl) ?_|refine WL_m rfl (zfr zln zmL rfl rfl rfl hwf rfl rfl hml) ?_|refine WL_p hty rfl rfl ?_|refine zh ?_|refine zi ?_|refine za ?_|refine zf ?_|refine zxg ?_|refine zd rfl ?_|refine zbZ rfl ?_|refine zx rfl rfl ?_|refine zq rfl rfl rfl ?_|refine WL_m rfl (zm hty rfl rfl rfl (by assumption) rfl) ?_|refine zj rfl rfl rfl rfl (fun _=>?_) (fun _=>?_))
      refine⟨hlt,by rw[hnx,hen],(zfY ⟨zz rfl rfl,zz rfl rfl,zz rfl rfl,⟨_,rfl,zO ?_ rfl⟩,trivial⟩ ⟨⟨⟨_,rfl,.of_eq ?_⟩,rfl⟩,trivial⟩)⟩
      ·exact hinc
      ·exact hmp
     |false=>
      rw[hkb]at hkn hen
      have hb0:=hbad hen
      repeat'(first|exact absurd (by assumption) hk|refine zv 0 rfl hr rfl rfl rfl ?_|refine zv 0 rfl hkn rfl rfl rfl ?_|refine WL_m rfl (zf4 hty zln zmL rfl rfl rfl rfl rfl hwf (Nat.le_of_lt hml) (hlk _) rfl) ?_|refine WL_p hty rfl rfl ?_|refine zh ?_|refine zi ?_|refine za ?_|refine zf ?_|refine zxg ?_|refine zd rfl ?_|refine zbZ rfl ?_|refine zg ?_|refine zx rfl rfl ?_|refine zq rfl rfl rfl ?_|refine WL_m rfl (zm hty rfl rfl rfl (by assumption) rfl) ?_|refine zj rfl rfl rfl rfl (fun _=>?_) (fun _=>?_))
      exact zaQ rfl hb0
    |some b=>
     have hlk: ∀ z,Go.Aw.lookV (zkz (zCu (l.take i))) e.base z=.tup [aB b,.bool true]:=fun z=>by unfold Go.Aw.lookV zkz;rw[hse];rfl
     obtain⟨e2,hm2,hb2⟩:=zsa _ hse
     have hes2:=zbn (List.mem_of_mem_take hm2)
     have hes2':e2.size=e2.typ.size+e2.body.size+e2.block.size:=rfl
     rw[hb2]at hes2'
     have hsm:=zrO b e.block (by omega)
     have hen:zbG (zCu (l.take i)) e (i:Nat)=decide (b=e.block):=by unfold zbG zfH;rw[hrt,hse,decide_eq_false hk];rfl
     by_cases hbe:b=e.block
     ·rw[decide_eq_true hbe]at hsm hen
      repeat'(first|exact absurd (by assumption) hk|refine zv 0 rfl hr rfl rfl rfl ?_|refine zv 0 rfl hsm rfl rfl rfl ?_|refine WL_m rfl (zf4 hty zln zmL rfl rfl rfl rfl rfl hwf (Nat.le_of_lt hml) (hlk _) rfl) ?_|refine WL_m rfl (zfr zln zmL rfl rfl rfl hwf rfl rfl hml) ?_|refine WL_p hty rfl rfl ?_|refine zh ?_|refine zi ?_|refine za ?_|refine zf ?_|refine zxg ?_|refine zd rfl ?_|refine zbZ rfl ?_|refine zx rfl rfl ?_|refine zq rfl rfl rfl ?_|refine WL_m rfl (zm hty rfl rfl rfl (by assumption) rfl) ?_|refine zj rfl rfl rfl rfl (fun _=>?_) (fun _=>?_))
      refine⟨hlt,by rw[hnx,hen],(zfY ⟨zz rfl rfl,zz rfl rfl,zz rfl rfl,⟨_,rfl,zO ?_ rfl⟩,trivial⟩ ⟨⟨⟨_,rfl,.of_eq ?_⟩,rfl⟩,trivial⟩)⟩
      ·exact hinc
      ·exact hmp
     ·rw[decide_eq_false hbe]at hsm hen
      have hb0:=hbad hen
      repeat'(first|exact absurd (by assumption) hk|refine zv 0 rfl hr rfl rfl rfl ?_|refine zv 0 rfl hsm rfl rfl rfl ?_|refine WL_m rfl (zf4 hty zln zmL rfl rfl rfl rfl rfl hwf (Nat.le_of_lt hml) (hlk _) rfl) ?_|refine WL_p hty rfl rfl ?_|refine zh ?_|refine zi ?_|refine za ?_|refine zf ?_|refine zxg ?_|refine zd rfl ?_|refine zbZ rfl ?_|refine zg ?_|refine zx rfl rfl ?_|refine zot rfl rfl rfl ?_|refine zr rfl rfl rfl ?_|refine WL_m rfl (zm hty rfl rfl rfl (by assumption) rfl) ?_|refine zj rfl rfl rfl rfl (fun _=>?_) (fun _=>?_))
      exact zaQ rfl hb0
 ·obtain rfl:i=l.length:=by rw[zaW]at hc;omega
  rw[List.take_length]at hrow
  repeat'(first|refine WL_p hty rfl rfl ?_|refine zh ?_|refine zi ?_|refine za ?_|refine zbZ rfl ?_|refine zl ?_|refine zg ?_)
  refine zaQ rfl ?_
  rw[he,if_pos hrow]
end Go.Proofs.YtokfbblhjpfjkaaGreat
namespace Go.Proofs.YtokfbblhjpfjkaaGreat
open Go.Aw Go.RowKit
def zlX:List (Nat×List Nat):=[(0,[]),(1,[]),(2,[0,1]),(3,[0,1,2]),(4,[0,1,2,3]),(5,[]),(6,[]),(7,[5,6]),(8,[5,6,7]),(9,[5,6,7,8]),(10,[0,1,2,3,4,5,6,7,8,9]),(11,[0,1,2,3,4,5,6,7,8,9,10]),(12,[0,1,2,3,4,5,6,7,8,9,10,11]),(13,[0,1,2,3,4,5,6,7,8,9,10,11,12]),(14,[0,1,2,3,4,5,6,7,8,9,10,11,12]),(15,[0,1,2,3,4,5,6,7,8,9,10,11,12,13,14]),(16,[0,1,2,3,4,5,6,7,8,9,10,11,12,13,14,15]),(17,[0,1,2,3,4,5,6,7,8,9,10,11,12,13,14,15,16]),(18,[0,1,2,3,4,5,6,7,8,9,10,11,12,13,14,15,16,17]),(19,[0,1,2,3,4,5,6,7,8,9,10,11,12,13,14,15,16,17,18])]
def zmI:List (Nat×List Nat):=[(0,[]),(1,[]),(2,[]),(3,[1,2]),(4,[1,2,3]),(5,[1,2,3,4]),(6,[1,2,3,4,5]),(7,[0,1,2,3,4,5,6]),(8,[]),(9,[]),(10,[8,9]),(11,[8,9,10]),(12,[8,9,10,11]),(13,[1,2,3,4,5,6,8,9,10,11,12]),(14,[0,1,2,3,4,5,6,7,8,9,10,11,12,13]),(15,[0,1,2,3,4,5,6,7,8,9,10,11,12,13,14])]
attribute [local irreducible] WL AC WD WE MStep OkOp
def zeu:List En→Nat
 |[]=>0
 |e::l=>e.typ.size+e.body.size+zeu l
theorem zqB: ∀ l:List En,zeu l≤zbJ l
 |[]=>Nat.le_refl _
 |e::l=>by
  have:=zqB l
  have h:e.size=e.typ.size+e.body.size+e.block.size:=rfl
  simp only[zeu,zbJ];omega
theorem zh9(l m:List En):zeu (l++m)=zeu l+zeu m:=by
 induction l with
 |nil=>simp[zeu]
 |cons a l ih=>simp only[List.cons_append,zeu,ih];omega
theorem zrV{l:List En}{i:Nat}{e:En}(h:l[i]? =some e):zeu (l.take (i+1))=zeu (l.take i)+(e.typ.size+e.body.size):=by
 rw[List.take_add_one,h,Option.toList_some,zh9];simp[zeu]
theorem zrT(l:List En)(i:Nat):zeu (l.take i)≤zeu l:=by
 conv=>rhs;rw[←List.take_append_drop i l]
 rw[zh9];omega
def zeQ(e:En):Bool:=zbk [e.typ,e.body]||zgw e.block
def zjk(l:List En):Bool:=decide (220 <l.length)||(l.any zeQ||decide (20000 <zeu l))
theorem ztW(a b:Tm)(h:sizes [a,b]≤1048576):FC Tryz.prog 16 [.lst 3 [cT a,cT b] true] (.bool (zbk [a,b])):=by
 have:=(zde [a,b] h).args (xs:=[.lst 3 (rsT [a,b]) true]) (.cons (.full _ _ _) .nil)
 rwa[rs2]at this
set_option maxHeartbeats 4000000 in
theorem znh(l:List En)(hl:zbJ l≤1048576):FC Tryz.prog 15 [sE l] (.bool (zjk l)):=by
 have hlen:=zbU l
 by_cases hb:220 <l.length
 ·have he:zjk l=true:=by unfold zjk;rw[decide_eq_true hb];rfl
  rw[he]
  refine zo hty Tryz.func15 rfl rfl rfl fun w0=>?_
  repeat'(first|(rename_i hc;exact absurd (show 220 <((rsE l).length:Int) by rw[zaW];omega) hc)|refine WL_p hty rfl rfl ?_|refine zh ?_|refine zi ?_|refine za ?_|refine zd rfl ?_|refine zg ?_|refine zb rfl ?_|refine zj rfl rfl rfl rfl (fun _=>?_) (fun _=>?_))
  all_goals rfl
 have he:zjk l=(l.any zeQ||decide (20000 <zeu l)):=by unfold zjk;rw[decide_eq_false hb];rfl
 rw[he]
 refine zo hty Tryz.func15 rfl rfl rfl fun w0=>?_
 repeat'(first|(rename_i hc;exact absurd hc (show ¬220 <((rsE l).length:Int) by rw[zaW];omega))|refine WL_p hty rfl rfl ?_|refine zh ?_|refine zi ?_|refine za ?_|refine zf ?_|refine zxg ?_|refine zbZ rfl ?_|refine zj rfl rfl rfl rfl (fun _=>?_) (fun _=>?_))
 refine zW l.length (fun i=>(l.take i).any zeQ=false) (fun i=>⟨envOf [(0,sE l),(3,.int .i64 (zeu (l.take i):Nat)),(4,.int .i64 (i:Nat))],bkOf []⟩)
  (zfY ⟨zz rfl rfl,zz rfl rfl,zz rfl rfl,trivial⟩ trivial) rfl ?_
 intro i hi hI
 repeat'(first|refine WL_p hty rfl rfl ?_|refine zi ?_|refine za ?_)
 refine zj rfl rfl rfl rfl (fun hc=>?_) (fun hc=>?_)
 ·have hlt:i <l.length:=by rw[zaW]at hc;omega
  obtain⟨e,he',hmem⟩:=zA hlt
  have re:=zeM he'
  have hes:=zbn hmem
  have hes':e.size=e.typ.size+e.body.size+e.block.size:=rfl
  have h1:=ztW e.typ e.body (by simp only[sizes];omega)
  have h2:=znz e.block (by omega)
  have h3:=zfS e.typ (by omega)
  have h4:=zfS e.body (by omega)
  have hat:=zaA (p:=zeQ) he'
  have hs1:=zrV he'
  have hs2:=zrT l (i+1)
  have hs3:=zqB l
  have w1:IntKind.i64.wrap ((zeu (l.take i):Nat)+(e.typ.size:Nat):Int)=(zeu (l.take i):Nat)+(e.typ.size:Nat):=zy (by omega) (by omega)
  have w2:IntKind.i64.wrap (IntKind.i64.wrap ((zeu (l.take i):Nat)+(e.typ.size:Nat):Int)+(e.body.size:Nat))=(zeu (l.take (i+1)):Nat):=by
   rw[w1,hs1]
   refine(zy ?_ ?_).trans ?_ <;>omega
  repeat'(first|(refine ztx (id:=7) ?_;refine zD (id:=7) zlX rfl (by kernel_rfl) ?_)|(refine ztx (id:=9) ?_;refine zab (zfY (l:=[(0,_),(3,_),(4,_)]) (bl:=[]) ⟨zz rfl rfl,zz rfl rfl,zz rfl rfl,trivial⟩ trivial) ?_;refine zD (id:=9) zmI rfl (by kernel_rfl) ?_)|refine zan rfl h1 rfl (fun _=>?_) (fun _=>?_)|refine zan rfl h2 rfl (fun _=>?_) (fun _=>?_)|refine zad 0 rfl h3 rfl rfl rfl ?_|refine zad 0 rfl h4 rfl rfl rfl ?_|refine zu (.inl ⟨rfl,zI hty rfl rfl⟩) ?_|refine zu (.inl ⟨rfl,zm hty rfl rfl rfl (by assumption) rfl⟩) ?_|refine zaG rfl rfl ?_|refine zav rfl rfl rfl ?_|refine zS ⟨by kernel_rfl,?_⟩|refine WL_p hty rfl rfl ?_|refine zh ?_|refine zi ?_|refine za ?_|refine zf ?_|refine zxg ?_|refine zd rfl ?_|refine zbZ rfl ?_|refine zg ?_|refine zb rfl ?_)
  all_goals first
   |have h5:l.any zeQ=true:=zbI he' (by simp_all [zeQ];done)
    simp[h5]
    done
   |refine⟨hlt,?_,(zfY ⟨zz rfl rfl,⟨_,rfl,zO ?_ rfl⟩,⟨_,rfl,zO ?_ rfl⟩,trivial⟩ trivial)⟩
    ·simp_all [zeQ]
    ·exact congrArg (AV.int .i64) w2
    ·exact congrArg (AV.int .i64) ((zy (by omega) (by omega)).trans (by omega))
 ·obtain rfl:i=l.length:=by rw[zaW]at hc;omega
  rw[List.take_length]at hI
  repeat'(first|refine WL_p hty rfl rfl ?_|refine zh ?_|refine zi ?_|refine za ?_|refine zbZ rfl ?_|refine zl ?_|refine zg ?_|refine zb rfl ?_|refine zj rfl rfl rfl rfl (fun _=>?_) (fun _=>?_))
  all_goals(rw[List.take_length]at*;simp[hI];omega)
end Go.Proofs.YtokfbblhjpfjkaaGreat
