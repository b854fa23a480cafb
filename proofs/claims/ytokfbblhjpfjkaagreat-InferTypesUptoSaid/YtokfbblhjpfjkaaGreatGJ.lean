/- A right row: what is known of its entries; what a right term's root is reduced t -/
import Derived.Test.YtokfbblhjpfjkaaGreatGH
import Derived.Test.YtokfbblhjpfjkaaGreatGI
import Derived.Test.YtokfbblhjpfjkaaGreatGE
import Derived.Test.YtokfbblhjpfjkaaGreatGC
import Derived.Test.YtokfbblhjpfjkaaGreatGF
set_option linter.unusedSimpArgs false
set_option linter.unusedVariables false
namespace Go.Proofs.YtokfbblhjpfjkaaGreat
open Go.Aw Go.RowKit
def Kn(f:Int→Option Bl):Prop:= ∀ i b,f i=some b→zb4 b i=true
theorem znj{f:Int→Option Bl}{e:En}(hf:Kn f)(h:zfH f e=true):zb4 e.block e.base=true:=by
 unfold zfH at h
 split at h
 ·rename_i b hb
  have:=hf _ _ hb
  rw[of_decide_eq_true h]at this;exact this
 ·exact h
theorem Kn.put{f:Int→Option Bl}{e:En}(hf:Kn f)(h:e.kind <3∨zb4 e.block e.base=true):Kn (zfm f e):=by
 intro i b hb
 unfold zfm at hb
 split at hb
 ·exact hf i b hb
 ·rename_i hk
  simp only at hb
  split at hb
  ·rename_i hi
   obtain rfl:=Option.some.inj hb
   rw[hi];exact h.resolve_left hk
  ·exact hf i b hb
theorem zly: ∀ {l:List En} {f:Int→Option Bl} {i:Nat},zcQ f i l=true→Kn f→ ∀ j e,l[j]? =some e→zcj e ((i+j:Nat):Int)=true∧(e.kind <3∨zb4 e.block e.base=true)
 |[],_,_,_,_,j,e,h=>by simp at h
 |a::l,f,i,h,hf,j,e,he=>by
  simp only[zcQ,zbG,Bool.and_eq_true,Bool.or_eq_true,decide_eq_true_eq]at h
  have hk:a.kind <3∨zb4 a.block a.base=true:=h.1.2.imp id (znj hf)
  cases j with
  |zero=>obtain rfl:=Option.some.inj (show some a=some e from he);exact⟨h.1.1,hk⟩
  |succ j=>
   have:=zly h.2 (hf.put hk) j e (by simpa using he)
   rwa[show i+1+j=i+(j+1) by omega]at this
theorem ztU{l:List En}(h:envI l=0):l.length≤200:=by
 unfold envI at h
 split at h
 ·cases h
 ·omega
theorem zez{l:List En}(h:envI l=0){j:Nat}{e:En}(he:l[j]? =some e):zcj e (j:Nat)=true∧(e.kind <3∨zb4 e.block e.base=true):=by
 have hr:zcQ (fun _=>none) 0 l=true:=by
  unfold envI at h
  split at h
  ·cases h
  ·split at h
   ·assumption
   ·cases h
 have:=zly hr (fun i b q=>by cases q) j e he
 rwa[Nat.zero_add]at this
theorem zeY{e:En}{j:Nat}(h:zcj e (j:Nat)=true)(hk:3≤e.kind):zce e=(j:Nat)∧e.kind≤6∧e.body=zT:=by
 unfold zcj at h
 rw[Bool.and_eq_true]at h
 have h:=h.2
 rw[if_neg (by omega),if_neg (by omega)]at h
 split at h
 ·rename_i hq
  simp only[Bool.and_eq_true,decide_eq_true_eq]at h
  exact⟨h.2.2,by omega,h.1⟩
 ·cases h
theorem zhV{base ahead k many:Int}{j:Nat}(h:zb3 base ahead k many=(j:Nat)):0≤base∧base≤65535∧0≤k∧k <many∧(j:Int)=base+ahead+k:=by
 unfold zb3 at h
 repeat'(split at h)
 all_goals omega
theorem zC3{e:En}{j:Nat}(h:zcj e (j:Nat)=true)(hk:e.kind=5):0≤e.which∧e.which <e.block.cons.length:=by
 have hn:=(zeY h (by omega)).1
 unfold zce at hn
 rw[if_neg (by omega),if_neg (by omega),if_pos hk]at hn
 have:=zhV hn
 omega
theorem zpr{e:En}{j:Nat}(h:zcj e (j:Nat)=true)(hk:e.kind=6):0≤e.which∧e.which <e.block.sorts.length∧0≤e.base∧e.base≤65535:=by
 have hn:=(zeY h (by omega)).1
 unfold zce at hn
 rw[if_neg (by omega),if_neg (by omega),if_neg (by omega)]at hn
 have:=zhV hn
 omega
theorem zr5{e:En}{j:Nat}(h:zcj e (j:Nat)=true)(hk:e.kind=4):0≤e.which∧e.which <e.block.sorts.length∧decS e.block e.which=true:=by
 have hn:=(zeY h (by omega)).1
 unfold zce at hn
 rw[if_neg (by omega),if_pos hk]at hn
 unfold zaL at hn
 split at hn
 ·omega
 ·split at hn
  ·omega
  ·split at hn
   ·rename_i hd
    have:=zhV hn
    exact⟨by omega,by omega,hd⟩
   ·omega
theorem zng{b:Bl}{base:Int}(h:zb4 b base=true):zaS b=true:=by
 simp only[zb4,Bool.and_eq_true,decide_eq_true_eq]at h
 exact zg5 h.1
theorem zq5{b:Bl}(h:zaS b=true){co:Cn}(hc:co∈b.cons):zel b co=true:=by
 simp only[zaS,Bool.and_eq_true]at h
 exact List.all_eq_true.1 h.2.2.2.2 co hc
theorem zpl{b:Bl}(h:zaS b=true){i:Nat}{s:Sr}(hs:b.sorts[i]? =some s):sortB b i s=true:=by
 simp only[zaS,Bool.and_eq_true]at h
 have:=zcz.1 h.2.2.2.1 i s hs
 rwa[Nat.zero_add]at this
theorem ztL{b:Bl}(h:zaS b=true)(s:Int):idxN b s≤12:=by
 unfold idxN
 split
 ·rename_i x hx
  have:=zpl h hx
  simp only[sortB,zkK,Bool.and_eq_true,decide_eq_true_eq]at this
  exact this.1.1
 ·omega
theorem zp6{b:Bl}(h:zaS b=true){a:Ar}{i:Int}(ha:zbQ b a i=true):a.dom.length≤12∧a.idx.length≤12:=by
 unfold zbQ at ha
 split at ha
 ·simp only[Bool.and_eq_true,decide_eq_true_eq]at ha
  have:=ztL h a.sort
  exact⟨ha.1.2.1,by omega⟩
 ·simp only[Bool.and_eq_true,decide_eq_true_eq]at ha
  omega
theorem zhr{b:Bl}(h:zaS b=true): ∀ {l:List Ar} {i:Int},zaT b i l=true→ ∀ a,a∈l→a.dom.length≤12∧a.idx.length≤12
 |[],_,_,a,ha=>by simp at ha
 |x::l,i,hs,a,ha=>by
  simp only[zaT,Bool.and_eq_true]at hs
  rcases List.mem_cons.1 ha with rfl|ha
  ·exact zp6 h hs.1
  ·exact zhr h hs.2 a ha
theorem zrN{b:Bl}(h:zaS b=true){co:Cn}(hc:co∈b.cons):co.args.length≤12∧ ∀ a,a∈co.args→a.dom.length≤12∧a.idx.length≤12:=by
 have:=zq5 h hc
 simp only[zel,Bool.and_eq_true,decide_eq_true_eq]at this
 exact⟨this.1.2.1,zhr h this.2.1⟩
def madeV(env:List En)(e:En)(t:Tm):Int×List Tm×Bool:=match ofE env (zF t).1 with
 |none=>(0,[],false)
 |some x=>if x.kind=5∧x.base=e.base∧x.which <e.block.cons.length then(match e.block.cons[x.which.toNat]? with
  |some con=>(x.which,(zF t).2,decide (con.sort=e.which)&&decide (con.args.length=(zF t).2.length))
  |none=>(0,[],false))else(0,[],false)
def znU(e:En):Nat:=match e.block.sorts[e.which.toNat]? with
 |some s=>s.idx.length
 |none=>0
def ziX(e:En)(args:List Tm)(mv:Int×List Tm×Bool):Option (Tm×Int):=if mv.2.2=true then(e.block.cons[mv.1.toNat]?).map fun con=>
 makeT e.block e.base con ((args.drop e.block.sorts.length).getD mv.1.toNat zT) (args.take e.block.sorts.length) ((args.drop e.block.sorts.length).take e.block.cons.length) mv.2.1 else none
def zpU(e:En)(mv:Int×List Tm×Bool):Option (Tm×Int):=if mv.2.2=true then(e.block.cons[mv.1.toNat]?).map fun con=>instT con.dec mv.2.1 0 else none
def lastT(l:List Tm):Tm:=l.getD (l.length-1) zT
def zbE(env:List En)(t:Tm):Option (Tm×Int):=match ofE env (zF t).1 with
 |none=>none
 |some e=>
  if e.kind=6 then
   if(env.length:Int) <e.base+(countN e.block:Nat)then none else
   if(zF t).2.length=e.block.sorts.length+e.block.cons.length+znU e+1 then ziX e (zF t).2 (madeV env e (lastT (zF t).2))else none
  else if e.kind=4 then
   if(zF t).2.length=znU e+1 then zpU e (madeV env e (lastT (zF t).2))else none
  else none
def lookR(env:List En)(t:Tm):Option (Tm×Int):=
 if t.kind=6 then(match t.kids with
  |[f,_]=>if f.kind=5 then some (instT (f.kids.getD 1 zT) (t.kids.drop 1) 0)else zbE env t
  |_=>none)
 else if t.kind=9 then(match t.kids with
  |[p]=>if p.kind=8 then some (p.kids.getD 1 zT,0)else none
  |_=>none)
 else if t.kind=10 then(match t.kids with
  |[p]=>if p.kind=8 then some (p.kids.getD 2 zT,0)else none
  |_=>none)
 else if t.kind=13 then(match t.kids with
  |[_,b,r]=>if r.kind=12 then some (.mk 6 0 [b,r.kids.getD 1 zT],0)else none
  |_=>none)
 else if t.kind=3 then(match ofE env t with
  |some e=>if e.kind=2 then some (e.body,0)else none
  |none=>none)
 else none
end Go.Proofs.YtokfbblhjpfjkaaGreat
namespace Go.Proofs.YtokfbblhjpfjkaaGreat
open Go.Aw Go.RowKit
def zc:List (Nat×List Nat):=[(0,[]),(1,[0]),(2,[]),(3,[1000007]),(4,[3,1000007]),(5,[1000007]),(6,[5,1000007]),(7,[3,4,5,6,1000007]),(8,[3,4,5,6,7,1000007]),(9,[3,4,5,6,7,8,1000007]),(10,[3,4,5,6,7,8,9,1000007]),(11,[3,4,5,6,7,8,9,10,1000007]),(12,[3,4,5,6,7,8]),(13,[3,4,5,6,7,8,12,1000007]),(14,[3,4,5,6,7,8,9,10,11,12,13,1000007]),(15,[3,4,5,6,7,8,9,10,11,12,13,14,1000007]),(16,[0,1,3,4,5,6,7,8,12]),(17,[0,1,2,3,4,5,6,7,8,12,16]),(18,[0,1,2,3,4,5,6,7,8,9,10,11,12,13,14,15,16,17])]
attribute [local irreducible] WL AC WD WE MStep OkOp
set_option maxHeartbeats 4000000 in
theorem zla(env:List En)(e:En)(t:Tm)(hl:env.length≤1048576)(ht:t.size≤1048576)(hfm:formedT t=true)(he:e.block.size≤1048576)(hw: ∀ x,x∈env→x.kind=5→0≤x.which):
 FC Tryz.prog 163 [sE env,aE e,aT t] (.tup [.int .i64 (madeV env e t).1,sT (madeV env e t).2.1,.bool (madeV env e t).2.2]):=by
 have hsp:=zcR t ht
 have hss:=zbb t
 have hsl:=zM (zF t).2
 have hof:=zhv env (zF t).1 hl (fun _=>zdg (ze9 t.size t [] hfm))
 have hcl:(rsC e.block.cons).length=e.block.cons.length:=zZ _
 have hbz:e.block.size=zbh e.block.sorts+zbg e.block.cons:=rfl
 have hcz:=zak e.block.cons
 cases ho:ofE env (zF t).1 with
 |none=>
  have hv:madeV env e t=(0,[],false):=by unfold madeV;rw[ho]
  rw[ho]at hof
  rw[hv]
  refine zo hty Tryz.func163 rfl rfl rfl fun w0=>?_
  repeat'(first|refine zv 0 rfl hsp rfl rfl rfl ?_|refine zv 0 rfl hof rfl rfl rfl ?_|refine WL_p hty rfl rfl ?_|refine zh ?_|refine zi ?_|refine za ?_|refine zd rfl ?_|refine zg ?_|refine zot rfl rfl rfl ?_)
  exact zH rfl rfl (.tup (.cons (.refl _) (.cons (.nilF _ _ _) (.cons (.refl _) .nil))))
 |some x=>
  have hxm:x∈env:=by
   unfold ofE at ho
   split at ho
   ·exact List.mem_of_getElem? ho
   ·cases ho
  rw[ho]at hof
  by_cases hc:x.kind=5∧x.base=e.base∧x.which <e.block.cons.length
  ·have h0:=hw x hxm hc.1
   obtain⟨con,hg,hcm⟩:=zA (show x.which.toNat <e.block.cons.length by omega)
   have rcn:=zby hg
   have hcs:=zaB hcm
   have hcs2:con.size=zaH con.args+sizes con.idx+con.dec.size:=rfl
   have hca:=zae con.args
   have hv:madeV env e t=(x.which,(zF t).2,decide (con.sort=e.which)&&decide (con.args.length=(zF t).2.length)):=by unfold madeV;simp only[ho,if_pos hc,hg]
   rw[hv]
   generalize (zF t).1=f at hsp hof ho
   generalize (zF t).2=l at hsp hsl⊢
   refine zo hty Tryz.func163 rfl rfl rfl fun w0=>?_
   repeat'(first|exact absurd hc.1 ‹_›|exact absurd hc.2.1 ‹_›|exact absurd (show(x.which:Int) <((rsC e.block.cons).length:Nat) by omega) (Int.not_lt.2 ‹_›)|refine zv 0 rfl hsp rfl rfl rfl ?_|refine zv 0 rfl hof rfl rfl rfl ?_|refine WL_m rfl (zaq hty rfl rfl rfl h0 rcn rfl) ?_|(refine za8 (id:=6) ?_;refine zab (zfY (l:=[(4,_),(7,_),(10,_),(11,_)]) (bl:=[(4,_),(10,_),(11,_)]) ⟨zz rfl rfl,zz rfl rfl,zz rfl rfl,zz rfl rfl,trivial⟩ ⟨zw rfl rfl,zw rfl rfl,zw rfl rfl,trivial⟩) ?_;refine zD (id:=6) zc rfl (by kernel_rfl) ?_)|refine zu (.inl ⟨rfl,zI hty rfl rfl⟩) ?_|refine zaG rfl rfl ?_|refine zau rfl rfl rfl ?_|refine zS ⟨by kernel_rfl,?_⟩|refine WL_p hty rfl rfl ?_|refine zh ?_|refine zi ?_|refine za ?_|refine zxg ?_|refine zbZ rfl ?_|refine zg ?_|refine zx rfl rfl ?_|refine zj rfl rfl rfl rfl (fun _=>?_) (fun _=>?_)|refine zaC rfl rfl rfl rfl (fun _=>?_) (fun _=>?_))
   ·rename_i h1 h2
    rw[zN,zeb]at h2
    refine zH rfl rfl (.tup (.cons (.refl _) (.cons (.refl _) (.cons (.of_eq (congrArg AV.bool ?_)) .nil))))
    simp[h1,show con.args.length=l.length by omega]
   ·rename_i h1 h2
    rw[zN,zeb]at h2
    refine zH rfl rfl (.tup (.cons (.refl _) (.cons (.refl _) (.cons (.of_eq (congrArg AV.bool ?_)) .nil))))
    simp[h1,show ¬con.args.length=l.length by omega]
   ·rename_i h1
    refine zH rfl rfl (.tup (.cons (.refl _) (.cons (.refl _) (.cons (.of_eq (congrArg AV.bool ?_)) .nil))))
    simp[h1]
  ·have hv:madeV env e t=(0,[],false):=by unfold madeV;simp only[ho,if_neg hc]
   rw[hv]
   generalize (zF t).1=f at hsp hof ho
   generalize (zF t).2=l at hsp hsl
   refine zo hty Tryz.func163 rfl rfl rfl fun w0=>?_
   repeat'(first|refine zv 0 rfl hsp rfl rfl rfl ?_|refine zv 0 rfl hof rfl rfl rfl ?_|refine WL_p hty rfl rfl ?_|refine zh ?_|refine zi ?_|refine za ?_|refine zxg ?_|refine zd rfl ?_|refine zbZ rfl ?_|refine zg ?_|refine zx rfl rfl ?_|refine zot rfl rfl rfl ?_|refine zj rfl rfl rfl rfl (fun _=>?_) (fun _=>?_))
   all_goals first
    |(exfalso;omega)
    |exact zH rfl rfl (.tup (.cons (.refl _) (.cons (.nilF _ _ _) (.cons (.refl _) .nil))))
end Go.Proofs.YtokfbblhjpfjkaaGreat
namespace Go.Proofs.YtokfbblhjpfjkaaGreat
open Go.Aw Go.RowKit
def zBk:List (Nat×List Nat):=[(0,[]),(1,[0]),(2,[0,1]),(3,[]),(4,[0,1,2,3]),(5,[0,1,2,3,4]),(6,[0,1,2,3,4,5]),(7,[]),(8,[0,1,2,3,4,5,6,7]),(9,[0,1,2,3,4,5,6,7,8]),(10,[0,1,2,3,4,5,6,7,8]),(11,[0,1,2,3,4,5,6,7,8,9,10]),(12,[0,1,2,3,4,5,6,7,8,9,10,11])]
def zBo:List (Nat×List Nat):=[(0,[]),(1,[0]),(2,[]),(3,[2]),(4,[]),(5,[]),(6,[]),(7,[5,6]),(8,[]),(9,[]),(10,[]),(11,[]),(12,[10,11]),(13,[8,9,10,11,12]),(14,[]),(15,[0,1,2,3,4,5,6,7,8,9,10,11,12,13,14]),(16,[0,1,2,3,4,5,6,7,8,9,10,11,12,13,14,15]),(17,[0,1,2,3,4,5,6,7,8,9,10,11,12,13,14,15]),(18,[0,1,2,3,4,5,6,7,8,9,10,11,12,13,14,15,16,17]),(19,[0,1,2,3,4,5,6,7,8,9,10,11,12,13,14,15,16,17,18])]
def zP:List (Nat×List Nat):=[(0,[]),(1,[0]),(2,[0,1]),(3,[]),(4,[3]),(5,[0,1,2,3,4]),(6,[0,1,2,3,4,5]),(7,[0,1,2,3,4,5,6]),(8,[0,1,2,3,4,5,6,7]),(9,[]),(10,[]),(11,[9,10]),(12,[9,10,11]),(13,[0,1,2,3,4,5,6,7,8,9,10,11,12])]
def zp:List (Nat×List Nat):=[(0,[]),(1,[0]),(2,[0,1]),(3,[0,1,2]),(4,[100009]),(5,[4,100009]),(6,[4,5,100009]),(7,[4,5,6,100009]),(8,[0,1,2,3]),(9,[0,1,2,3,4,5,6,7,8])]
def zxP:List (Nat×List Nat):=[(0,[]),(1,[0]),(2,[]),(3,[2]),(4,[2,3]),(5,[0,1,2,3,4]),(6,[]),(7,[6]),(8,[0,1,2,3,4,5,6,7])]
def zw2:List (Nat×List Nat):=[(0,[]),(1,[]),(2,[]),(3,[]),(4,[3]),(5,[3,4]),(6,[2,3,4,5]),(7,[2,3,4,5,6]),(8,[0,1,2,3,4,5,6,7]),(9,[0,1,2,3,4,5,6,7,8]),(10,[0,1,2,3,4,5,6,7,8,9]),(11,[0,1,2,3,4,5,6,7,8,9]),(12,[0,1,2,3,4,5,6,7,8,9]),(13,[]),(14,[]),(15,[0,1,2,3,4,5,6,7,8,9,10,13,14]),(16,[0,1,2,3,4,5,6,7,8,9,10,11,13,14,15]),(17,[0,1,2,3,4,5,6,7,8,9,10,11,12,13,14,15,16])]
attribute [local irreducible] WL AC WD WE MStep OkOp
theorem zob(e:En)(c:Int)(con:Cn)(l:List Tm)(h0:0≤c)(hcn:e.block.cons[c.toNat]? =some con)(hb:e.block.size≤1048576)(hl:sizes l≤1048576):
 FC Tryz.prog 164 [.eptr (cE e) 0,.eptr [.int .i64 c] 0,.eptr [sT l] 0] (.tup [aT (instT con.dec l 0).1,.int .i64 (instT con.dec l 0).2]):=by
 have rcn:=zby hcn
 have hcs:=zaB (List.mem_of_getElem? hcn)
 have hcs2:con.size=zaH con.args+sizes con.idx+con.dec.size:=rfl
 have hbz:e.block.size=zbh e.block.sorts+zbg e.block.cons:=rfl
 have h1:=zfW con.dec l 0 (by omega) hl
 generalize instT con.dec l 0=r at h1⊢
 refine zo hty Tryz.func164 rfl rfl rfl fun w0=>?_
 repeat'(first|(refine za8 (id:=1) ?_;refine zab (zfY (l:=[(0,_),(1,_),(2,_),(3,_)]) (bl:=[(3,_)]) ⟨zz rfl rfl,zz rfl rfl,zz rfl rfl,zz rfl rfl,trivial⟩ ⟨zw rfl rfl,trivial⟩) ?_;refine zD (id:=1) zBk rfl (by kernel_rfl) ?_)|refine zbc rfl (zaq hty rfl rfl rfl h0 rcn rfl) ?_|refine zad 0 rfl h1 rfl rfl rfl ?_|refine zu (.inl ⟨rfl,zI hty rfl rfl⟩) ?_|refine zS ⟨by kernel_rfl,?_⟩|refine WL_p hty rfl rfl ?_|refine zh ?_|refine zi ?_|refine za ?_|refine zg ?_)
 exact zH rfl rfl (.refl _)
theorem znW(e:En)(c:Nat)(con:Cn)(mt:Tm)(args l:List Tm)(n m:Nat)(hb:e.block.size≤1048576)(hco:e.block.cons[c]? =some con)(hmt:((args.drop n).take m)[c]? =some mt)(h1:sizes args≤6000)(h3:sizes l≤6000)
 (n1:args.take n≠[]) (hnm:n+m≤args.length) (hal:l.length=con.args.length) (hl:con.args.length≤12) (hd: ∀ a,a∈con.args→a.dom.length≤12∧a.idx.length≤12):
 FC Tryz.prog 165 [.eptr (cE e) 0,.eptr [.int .i64 (c:Nat)] 0,.eptr [sT args] 0,.eptr [.int .i64 (n:Nat)] 0,.eptr [.int .i64 (m:Nat)] 0,.eptr [sT l] 0]
  (.tup [aT (makeT e.block e.base con mt (args.take n) ((args.drop n).take m) l).1,.int .i64 (makeT e.block e.base con mt (args.take n) ((args.drop n).take m) l).2]):=by
 have hlen:=zM args
 have z1:=zb1 args n
 have z2:sizes ((args.drop n).take m)≤sizes args:=by
  have q1:=zb1 (args.drop n) m
  have q2:=zax (args.take n) (args.drop n)
  rw[List.take_append_drop]at q2
  omega
 have hmk:=zrz e.block e.base c con mt (args.take n) ((args.drop n).take m) l hb hco hmt (by omega) (by omega) h3 n1 hal hl hd
 have e1:(sT (args.take n):AV)=.lst 3 (((rsT args).take n).drop 0) false:=by
  rw[List.drop_zero];unfold sT;rw[zbq,zbq,List.map_take]
 have e2:(sT ((args.drop n).take m):AV)=.lst 3 (((rsT args).take (n+m)).drop n) false:=by
  unfold sT;rw[zbq,zbq,List.map_take,List.map_drop,List.drop_take,Nat.add_sub_cancel_left]
 rw[e1,e2]at hmk
 have w1:IntKind.i64.wrap ((n:Nat)+(m:Nat):Int)=((n+m:Nat):Int):=by rw[zy (by omega) (by omega)];omega
 generalize makeT e.block e.base con mt (args.take n) ((args.drop n).take m) l=r at hmk⊢
 refine zo hty Tryz.func165 rfl rfl rfl fun w0=>?_
 repeat'(first|(refine za8 (id:=1) ?_;refine zab (zfY (l:=[(0,_),(1,_),(2,_),(3,_),(4,_),(5,_),(6,_)]) (bl:=[(6,_)]) ⟨zz rfl rfl,zz rfl rfl,zz rfl rfl,zz rfl rfl,zz rfl rfl,zz rfl rfl,zz rfl rfl,trivial⟩ ⟨zw rfl rfl,trivial⟩) ?_;refine zD (id:=1) zBo rfl (by kernel_rfl) ?_)|refine zbc rfl (zbO hty 0 n rfl rfl rfl ⟨_,_,rfl,rfl⟩ (Nat.zero_le _) (by rw[zeb];omega) rfl) ?_|refine zbc rfl (zbO hty n (n+m) rfl rfl ⟨_,_,rfl,rfl⟩ ⟨_,_,rfl,w1⟩ (by omega) (by rw[zeb];omega) rfl) ?_|refine zad 0 rfl hmk rfl rfl rfl ?_|refine zu (.inl ⟨rfl,zI hty rfl rfl⟩) ?_|refine zS ⟨by kernel_rfl,?_⟩|refine WL_p hty rfl rfl ?_|refine zh ?_|refine zi ?_|refine za ?_|refine zg ?_)
 exact zH rfl rfl (.refl _)
theorem znk: ∀ (n:Nat) (t:Tm) (acc:List Tm),formedT t=true→(∀ x,x∈acc→formedT x=true)→ ∀ x,x∈(spN n t acc).2→formedT x=true
 |0,t,acc,_,ha=>ha
 |n+1,t,acc,h,ha=>by
  by_cases h2:zbC t 6=true
  ·obtain⟨f,a,hk⟩:=zb0 h2
   rw[zcn h2 hk]
   refine znk n f _ (zao h (by rw[hk];exact List.mem_cons_self)) fun x hx=>?_
   rcases List.mem_append.1 hx with q|q
   ·exact ha x q
   ·rw[List.mem_singleton.1 q];exact zao h (by rw[hk];simp)
  ·have h2:zbC t 6=false:=by simpa using h2
   rw[zc5 h2];exact ha
theorem zp1{t:Tm}(h:formedT t=true){x:Tm}(hx:x∈(zF t).2):formedT x=true:=
 znk t.size t [] h (fun x q=>by simp at q) x (List.mem_reverse.1 hx)
theorem ziR{env:List En}{t:Tm}{e:En}(h:ofE env t=some e): ∃ j:Nat,env[j]? =some e:=by
 unfold ofE at h
 split at h
 ·exact⟨_,h⟩
 ·cases h
set_option maxHeartbeats 16000000 in
theorem znD(env:List En)(t:Tm)(hl:zbJ env≤1048576)(hv:envI env=0)(hs:t.size≤6000)(hfm:formedT t=true): ∃ v,Runs v (zbE env t)∧FC Tryz.prog 122 [sE env,aT t] v:=by
 have hlen:=zbU env
 have h200:=ztU hv
 have hsp:=zcR t (by omega)
 have hss:=zbb t
 have hsl:=zM (zF t).2
 have hfa: ∀ x,x∈(zF t).2→formedT x=true:=fun x=>zp1 hfm
 have hof:=zhv env (zF t).1 (by omega) (fun _=>zdg (ze9 t.size t [] hfm))
 cases ho:ofE env (zF t).1 with
 |none=>
  have hr:zbE env t=none:=by unfold zbE;rw[ho]
  rw[ho]at hof
  rw[hr]
  refine⟨_,rfl,?_⟩
  generalize (zF t).1=f at hsp hof
  generalize (zF t).2=args at hsp
  refine zo hty Tryz.func122 rfl rfl rfl fun w0=>?_
  repeat'(first|refine zv 0 rfl hsp rfl rfl rfl ?_|refine zv 0 rfl hof rfl rfl rfl ?_|refine WL_p hty rfl rfl ?_|refine zh ?_|refine zi ?_|refine za ?_|refine zd rfl ?_|refine zg ?_|refine zot rfl rfl rfl ?_|refine zr rfl rfl rfl ?_)
  exact zH rfl rfl (.refl _)
 |some e=>
  rw[ho]at hof
  obtain⟨j,hj⟩:=ziR ho
  have hem:=List.mem_of_getElem? hj
  have hes:=zbn hem
  have hes':e.size=e.typ.size+e.body.size+e.block.size:=rfl
  obtain⟨hre,hkn⟩:=zez hv hj
  have hbz:e.block.size=zbh e.block.sorts+zbg e.block.cons:=rfl
  have hbs:=zaa e.block.sorts
  have hbc:=zak e.block.cons
  have hct:=zgG e.block (by omega)
  have hcl:=zhQ e.block (by omega)
  by_cases k6:e.kind=6
  ·obtain⟨w0,w1,w2,w3⟩:=zpr hre k6
   obtain⟨s,hsg,hsm⟩:=zA (show e.which.toNat <e.block.sorts.length by omega)
   have rs:=zaK hsg
   have his:znU e=s.idx.length:=by unfold znU;rw[hsg]
   have hsz:=zat hsm
   have hsz2:s.size=zaH s.idx+s.decT.size:=rfl
   have hil:=zae s.idx
   have hwr:IntKind.i64.wrap (e.base+(countN e.block:Nat))=e.base+(countN e.block:Nat):=zy (by omega) (by omega)
   have hrE:(rsE env).length=env.length:=zaW _
   have hrS:(zY e.block.sorts).length=e.block.sorts.length:=zQ _
   have hrC:(rsC e.block.cons).length=e.block.cons.length:=zZ _
   have hrI:(zX s.idx).length=s.idx.length:=zN _
   by_cases hcn:(env.length:Int) <e.base+(countN e.block:Nat)
   ·have hr:zbE env t=none:=by unfold zbE;simp only[ho,if_pos k6,if_pos hcn]
    rw[hr]
    refine⟨_,rfl,?_⟩
    generalize (zF t).1=f at hsp hof
    generalize (zF t).2=args at hsp
    refine zo hty Tryz.func122 rfl rfl rfl fun w0=>?_
    repeat'(first|exact absurd k6 ‹_›|refine zv 0 rfl hsp rfl rfl rfl ?_|refine zv 0 rfl hof rfl rfl rfl ?_|(refine za8 (id:=5) ?_;refine zab (zfY (l:=[(0,_),(6,_),(7,_)]) (bl:=[(6,_),(7,_)]) ⟨zz rfl rfl,zz rfl rfl,zz rfl rfl,trivial⟩ ⟨zw rfl rfl,zw rfl rfl,trivial⟩) ?_;refine zD (id:=5) zP rfl (by kernel_rfl) ?_)|refine zbc rfl (zaq hty rfl rfl rfl (by assumption) rs rfl) ?_|refine zD (id:=7) zp rfl (by kernel_rfl) ?_|refine zD (id:=8) zxP rfl (by kernel_rfl) ?_|refine zad 0 rfl hct rfl rfl rfl ?_|(refine za8 (id:=10) ?_;exfalso;omega)|refine zu (.inl ⟨rfl,zI hty rfl rfl⟩) ?_|refine zS ⟨by kernel_rfl,?_⟩|refine WL_p hty rfl rfl ?_|refine zh ?_|refine zi ?_|refine za ?_|refine zxg ?_|refine zd rfl ?_|refine zbZ rfl ?_|refine zg ?_|refine zx rfl rfl ?_|refine zq rfl rfl rfl ?_|refine zj rfl rfl rfl rfl (fun _=>?_) (fun _=>?_)|refine zaC rfl rfl rfl rfl (fun _=>?_) (fun _=>?_))
    exact zH rfl rfl (.refl _)
   have hra:(rsT (zF t).2).length=(zF t).2.length:=zeb _
   have hwn:IntKind.i64.wrap (IntKind.i64.wrap (IntKind.i64.wrap ((zY e.block.sorts).length+(rsC e.block.cons).length:Int)+(zX s.idx).length)+1)=(e.block.sorts.length:Int)+e.block.cons.length+s.idx.length+1:=by
    rw[hrS,hrC,hrI,zy (n:=(e.block.sorts.length:Int)+e.block.cons.length) (by omega) (by omega),zy (n:=(e.block.sorts.length:Int)+e.block.cons.length+s.idx.length) (by omega) (by omega),zy (by omega) (by omega)]
   by_cases hln:(zF t).2.length=e.block.sorts.length+e.block.cons.length+znU e+1
   ·obtain⟨last,hlast,hlm⟩:=zA (show(zF t).2.length-1 <(zF t).2.length by omega)
    have hlz:=zK hlm
    have hgd:(zF t).2.getD ((zF t).2.length-1) zT=last:=by rw[List.getD_eq_getElem?_getD,hlast];rfl
    have hmd:=zla env e last (by omega) (by omega) (hfa last hlm) (by omega) (fun x hx h5=>by
     obtain⟨i,hi⟩:=List.getElem?_of_mem hx
     exact(zC3 (zez hv hi).1 h5).1)
    have hwl:IntKind.i64.wrap ((rsT (zF t).2).length-1:Int)=((zF t).2.length-1:Int):=by rw[hra];exact zy (by omega) (by omega)
    have hl0:(0:Int)≤IntKind.i64.wrap ((rsT (zF t).2).length-1:Int):=by rw[hwl];omega
    have hlr:(rsT (zF t).2)[(IntKind.i64.wrap ((rsT (zF t).2).length-1:Int)).toNat]? =some (cT last):=by
     rw[hwl,show((zF t).2.length-1:Int).toNat=(zF t).2.length-1 by omega];exact zac hlast
    have hsr:zbE env t=ziX e (zF t).2 (madeV env e last):=by unfold zbE;simp only[ho,if_pos k6,if_neg hcn,if_pos hln,lastT,hgd]
    have hmv:(madeV env e last).2.2=true→ ∃ (k:Nat) (con:Cn),(madeV env e last).1=(k:Nat)∧e.block.cons[k]? =some con∧(madeV env e last).2.1.length=con.args.length∧sizes (madeV env e last).2.1≤last.size:=by
     intro hq
     unfold madeV at hq⊢
     cases hol:ofE env (zF last).1 with
     |none=>rw[hol]at hq;cases hq
     |some x=>
      rw[hol]at hq
      simp only at hq⊢
      by_cases hcx:x.kind=5∧x.base=e.base∧x.which <e.block.cons.length
      ·rw[if_pos hcx]at hq
       obtain⟨i,hi⟩:=ziR hol
       have h0:=(zC3 (zez hv hi).1 hcx.1).1
       obtain⟨con,hg,_⟩:=zA (show x.which.toNat <e.block.cons.length by omega)
       rw[hg]at hq
       simp only[Bool.and_eq_true,decide_eq_true_eq]at hq
       have:=zbb last
       have:=(zF last).1.size_pos
       rw[if_pos hcx,hg]
       exact⟨x.which.toNat,con,by simp only;omega,hg,hq.2.symm,by simp only;omega⟩
      ·rw[if_neg hcx]at hq;cases hq
    rw[hsr]
    have hshape:=zng (hkn.resolve_left (by omega))
    generalize madeV env e last=mv at hmd hmv⊢
    obtain⟨c,l,b⟩:=mv
    cases b with
    |false=>
     rw[show ziX e (zF t).2 (c,l,false)=none from rfl]
     refine⟨_,rfl,?_⟩
     generalize (zF t).1=f at hsp hof
     generalize (zF t).2=args at*
     refine zo hty Tryz.func122 rfl rfl rfl fun w0=>?_
     repeat'(first|exact absurd k6 ‹_›|refine zv 0 rfl hsp rfl rfl rfl ?_|refine zv 0 rfl hof rfl rfl rfl ?_|(refine za8 (id:=5) ?_;refine zab (zfY (l:=[(0,_),(6,_),(7,_)]) (bl:=[(6,_),(7,_)]) ⟨zz rfl rfl,zz rfl rfl,zz rfl rfl,trivial⟩ ⟨zw rfl rfl,zw rfl rfl,trivial⟩) ?_;refine zD (id:=5) zP rfl (by kernel_rfl) ?_)|refine zbc rfl (zaq hty rfl rfl rfl hl0 hlr rfl) ?_|refine zbc rfl (zaq hty rfl rfl rfl (by assumption) rs rfl) ?_|refine zD (id:=7) zp rfl (by kernel_rfl) ?_|refine zD (id:=8) zxP rfl (by kernel_rfl) ?_|refine zad 0 rfl hct rfl rfl rfl ?_|(refine za8 (id:=9) ?_;exfalso;omega)|(refine za8 (id:=11) ?_;exfalso;omega)|(refine za8 (id:=10) ?_;refine zab (zfY (l:=[(0,_),(6,_),(7,_),(9,_),(10,_),(11,_)]) (bl:=[(6,_),(7,_),(9,_),(10,_)]) ⟨zz rfl rfl,zz rfl rfl,zz rfl rfl,zz rfl rfl,zz rfl rfl,zz rfl rfl,trivial⟩ ⟨zw rfl rfl,zw rfl rfl,zw rfl rfl,zw rfl rfl,trivial⟩) ?_;refine za ?_)|(refine za8 (id:=12) ?_;refine zab (zfY (l:=[(0,_),(6,_),(7,_),(9,_),(10,_)]) (bl:=[(6,_),(7,_),(9,_),(10,_)]) ⟨zz rfl rfl,zz rfl rfl,zz rfl rfl,zz rfl rfl,zz rfl rfl,trivial⟩ ⟨zw rfl rfl,zw rfl rfl,zw rfl rfl,zw rfl rfl,trivial⟩) ?_;refine zD (id:=12) zw2 rfl (by kernel_rfl) ?_)|refine zad 0 rfl hmd rfl rfl rfl ?_|refine zu (.inl ⟨rfl,zI hty rfl rfl⟩) ?_|refine zS ⟨by kernel_rfl,?_⟩|refine WL_p hty rfl rfl ?_|refine zh ?_|refine zi ?_|refine za ?_|refine zxg ?_|refine zd rfl ?_|refine zbZ rfl ?_|refine zg ?_|refine zx rfl rfl ?_|refine zq rfl rfl rfl ?_|refine zj rfl rfl rfl rfl (fun _=>?_) (fun _=>?_)|refine zaC rfl rfl rfl rfl (fun _=>?_) (fun _=>?_))
     exact zH rfl rfl (.refl _)
    |true=>
     obtain⟨k,con,hck,hcg,hll,hlz2⟩:=hmv rfl
     simp only at hck hll hlz2
     subst hck
     have hkl:=(List.getElem?_eq_some_iff.1 hcg).1
     obtain⟨r1,r2⟩:=zrN hshape (List.mem_of_getElem? hcg)
     have hdl:((zF t).2.drop e.block.sorts.length)[k]? =some (((zF t).2.drop e.block.sorts.length).getD k zT):=by
      rw[List.getD_eq_getElem?_getD,List.getElem?_eq_getElem (by rw[List.length_drop];omega)];rfl
     have hmt:(((zF t).2.drop e.block.sorts.length).take e.block.cons.length)[k]? =some (((zF t).2.drop e.block.sorts.length).getD k zT):=by
      rw[List.getElem?_take_of_lt hkl];exact hdl
     have hfp:=(zF t).1.size_pos
     have h2:=znW e k con (((zF t).2.drop e.block.sorts.length).getD k zT) (zF t).2 l e.block.sorts.length e.block.cons.length (by omega) hcg hmt (by omega) (by omega)
      (fun q=>by have:=congrArg List.length q;rw[List.length_take]at this;simp only[List.length_nil]at this;omega) (by omega) hll r1 r2
     rw[show ziX e (zF t).2 ((k:Nat),l,true)=some (makeT e.block e.base con (((zF t).2.drop e.block.sorts.length).getD k zT) ((zF t).2.take e.block.sorts.length) (((zF t).2.drop e.block.sorts.length).take e.block.cons.length) l) by
      simp only[ziX,if_true,Int.toNat_natCast,hcg,Option.map_some]]
     rw[←hrS, ←hrC]at h2⊢
     refine⟨_,⟨_,_,rfl,rfl,h2⟩,?_⟩
     generalize (zF t).1=f at hsp hof
     generalize (zF t).2=args at*
     refine zo hty Tryz.func122 rfl rfl rfl fun w0=>?_
     repeat'(first|exact absurd k6 ‹_›|exact absurd (show(6:Int)=4 by omega) (by decide)|refine zv 0 rfl hsp rfl rfl rfl ?_|refine zv 0 rfl hof rfl rfl rfl ?_|(refine za8 (id:=5) ?_;refine zab (zfY (l:=[(0,_),(6,_),(7,_)]) (bl:=[(6,_),(7,_)]) ⟨zz rfl rfl,zz rfl rfl,zz rfl rfl,trivial⟩ ⟨zw rfl rfl,zw rfl rfl,trivial⟩) ?_;refine zD (id:=5) zP rfl (by kernel_rfl) ?_)|refine zbc rfl (zaq hty rfl rfl rfl hl0 hlr rfl) ?_|refine zbc rfl (zaq hty rfl rfl rfl (by assumption) rs rfl) ?_|refine zD (id:=7) zp rfl (by kernel_rfl) ?_|refine zD (id:=8) zxP rfl (by kernel_rfl) ?_|refine zad 0 rfl hct rfl rfl rfl ?_|(refine za8 (id:=10) ?_;refine zab (zfY (l:=[(0,_),(6,_),(7,_),(9,_),(10,_),(11,_)]) (bl:=[(6,_),(7,_),(9,_),(10,_)]) ⟨zz rfl rfl,zz rfl rfl,zz rfl rfl,zz rfl rfl,zz rfl rfl,zz rfl rfl,trivial⟩ ⟨zw rfl rfl,zw rfl rfl,zw rfl rfl,zw rfl rfl,trivial⟩) ?_;refine za ?_)|(refine za8 (id:=12) ?_;refine zab (zfY (l:=[(0,_),(6,_),(7,_),(9,_),(10,_)]) (bl:=[(6,_),(7,_),(9,_),(10,_)]) ⟨zz rfl rfl,zz rfl rfl,zz rfl rfl,zz rfl rfl,zz rfl rfl,trivial⟩ ⟨zw rfl rfl,zw rfl rfl,zw rfl rfl,zw rfl rfl,trivial⟩) ?_;refine zD (id:=12) zw2 rfl (by kernel_rfl) ?_)|refine zad 0 rfl hmd rfl rfl rfl ?_|(refine za8 (id:=17) ?_;refine zab (z6 7 rfl rfl) ?_;refine zab (z6 12 rfl rfl) ?_;refine zab (z6 6 rfl rfl) ?_;refine zab (z6 9 rfl rfl) ?_;refine zab (z6 10 rfl rfl) ?_;refine zab (z6 13 rfl rfl) ?_;refine za ?_)|refine WL_m rfl (zbo rfl rfl rfl) ?_|refine zu (.inl ⟨rfl,zI hty rfl rfl⟩) ?_|refine zS ⟨by kernel_rfl,?_⟩|refine WL_p hty rfl rfl ?_|refine zh ?_|refine zi ?_|refine za ?_|refine zxg ?_|refine zd rfl ?_|refine zbZ rfl ?_|refine zg ?_|refine zx rfl rfl ?_|refine zq rfl rfl rfl ?_|refine zj rfl rfl rfl rfl (fun _=>?_) (fun _=>?_)|refine zaC rfl rfl rfl rfl (fun _=>?_) (fun _=>?_))
     exact zH rfl rfl (.refl _)
   ·have hsr:zbE env t=none:=by unfold zbE;simp only[ho,if_pos k6,if_neg hcn,if_neg hln]
    rw[hsr]
    refine⟨_,rfl,?_⟩
    generalize (zF t).1=f at hsp hof
    generalize (zF t).2=args at*
    refine zo hty Tryz.func122 rfl rfl rfl fun w0=>?_
    repeat'(first|exact absurd k6 ‹_›|refine zv 0 rfl hsp rfl rfl rfl ?_|refine zv 0 rfl hof rfl rfl rfl ?_|(refine za8 (id:=5) ?_;refine zab (zfY (l:=[(0,_),(6,_),(7,_)]) (bl:=[(6,_),(7,_)]) ⟨zz rfl rfl,zz rfl rfl,zz rfl rfl,trivial⟩ ⟨zw rfl rfl,zw rfl rfl,trivial⟩) ?_;refine zD (id:=5) zP rfl (by kernel_rfl) ?_)|refine zbc rfl (zaq hty rfl rfl rfl (by assumption) rs rfl) ?_|refine zD (id:=7) zp rfl (by kernel_rfl) ?_|refine zD (id:=8) zxP rfl (by kernel_rfl) ?_|refine zad 0 rfl hct rfl rfl rfl ?_|(refine za8 (id:=12) ?_;exfalso;omega)|refine zu (.inl ⟨rfl,zI hty rfl rfl⟩) ?_|refine zS ⟨by kernel_rfl,?_⟩|refine WL_p hty rfl rfl ?_|refine zh ?_|refine zi ?_|refine za ?_|refine zxg ?_|refine zd rfl ?_|refine zbZ rfl ?_|refine zg ?_|refine zx rfl rfl ?_|refine zq rfl rfl rfl ?_|refine zj rfl rfl rfl rfl (fun _=>?_) (fun _=>?_)|refine zaC rfl rfl rfl rfl (fun _=>?_) (fun _=>?_))
    all_goals exact zH rfl rfl (.refl _)
  by_cases k4:e.kind=4
  ·obtain⟨w0,w1,_⟩:=zr5 hre k4
   obtain⟨s,hsg,hsm⟩:=zA (show e.which.toNat <e.block.sorts.length by omega)
   have rs:=zaK hsg
   have his:znU e=s.idx.length:=by unfold znU;rw[hsg]
   have hsz:=zat hsm
   have hsz2:s.size=zaH s.idx+s.decT.size:=rfl
   have hil:=zae s.idx
   have hrI:(zX s.idx).length=s.idx.length:=zN _
   have hra:(rsT (zF t).2).length=(zF t).2.length:=zeb _
   have hwn:IntKind.i64.wrap (IntKind.i64.wrap (IntKind.i64.wrap (0+0:Int)+(zX s.idx).length)+1)=(s.idx.length:Int)+1:=by
    rw[hrI,zy (n:=(0+0:Int)) (by omega) (by omega),zy (n:=(0+0:Int)+s.idx.length) (by omega) (by omega),zy (by omega) (by omega)];omega
   by_cases hln:(zF t).2.length=znU e+1
   ·obtain⟨last,hlast,hlm⟩:=zA (show(zF t).2.length-1 <(zF t).2.length by omega)
    have hlz:=zK hlm
    have hgd:(zF t).2.getD ((zF t).2.length-1) zT=last:=by rw[List.getD_eq_getElem?_getD,hlast];rfl
    have hmd:=zla env e last (by omega) (by omega) (hfa last hlm) (by omega) (fun x hx h5=>by
     obtain⟨i,hi⟩:=List.getElem?_of_mem hx
     exact(zC3 (zez hv hi).1 h5).1)
    have hwl:IntKind.i64.wrap ((rsT (zF t).2).length-1:Int)=((zF t).2.length-1:Int):=by rw[hra];exact zy (by omega) (by omega)
    have hl0:(0:Int)≤IntKind.i64.wrap ((rsT (zF t).2).length-1:Int):=by rw[hwl];omega
    have hlr:(rsT (zF t).2)[(IntKind.i64.wrap ((rsT (zF t).2).length-1:Int)).toNat]? =some (cT last):=by
     rw[hwl,show((zF t).2.length-1:Int).toNat=(zF t).2.length-1 by omega];exact zac hlast
    have hsr:zbE env t=zpU e (madeV env e last):=by unfold zbE;simp only[ho,if_neg k6,if_pos k4,if_pos hln,lastT,hgd]
    have hmv:(madeV env e last).2.2=true→0≤(madeV env e last).1∧(∃ con,e.block.cons[(madeV env e last).1.toNat]? =some con)∧sizes (madeV env e last).2.1≤last.size:=by
     intro hq
     unfold madeV at hq⊢
     cases hol:ofE env (zF last).1 with
     |none=>rw[hol]at hq;cases hq
     |some x=>
      rw[hol]at hq
      simp only at hq⊢
      by_cases hcx:x.kind=5∧x.base=e.base∧x.which <e.block.cons.length
      ·rw[if_pos hcx]at hq
       obtain⟨i,hi⟩:=ziR hol
       have h0:=(zC3 (zez hv hi).1 hcx.1).1
       obtain⟨con,hg,_⟩:=zA (show x.which.toNat <e.block.cons.length by omega)
       have:=zbb last
       rw[if_pos hcx,hg]
       exact⟨h0,⟨con,hg⟩,by simp only;omega⟩
      ·rw[if_neg hcx]at hq;cases hq
    rw[hsr]
    generalize madeV env e last=mv at hmd hmv⊢
    obtain⟨c,l,b⟩:=mv
    cases b with
    |false=>
     rw[show zpU e (c,l,false)=none from rfl]
     refine⟨_,rfl,?_⟩
     generalize (zF t).1=f at hsp hof
     generalize (zF t).2=args at*
     refine zo hty Tryz.func122 rfl rfl rfl fun w0=>?_
     repeat'(first|exact absurd (by assumption) k6|exact absurd k6 (by assumption)|exact absurd k4 ‹_›|refine zv 0 rfl hsp rfl rfl rfl ?_|refine zv 0 rfl hof rfl rfl rfl ?_|(refine za8 (id:=5) ?_;refine zab (zfY (l:=[(0,_),(6,_),(7,_)]) (bl:=[(6,_),(7,_)]) ⟨zz rfl rfl,zz rfl rfl,zz rfl rfl,trivial⟩ ⟨zw rfl rfl,zw rfl rfl,trivial⟩) ?_;refine zD (id:=5) zP rfl (by kernel_rfl) ?_)|refine zbc rfl (zaq hty rfl rfl rfl hl0 hlr rfl) ?_|refine zbc rfl (zaq hty rfl rfl rfl (by assumption) rs rfl) ?_|(refine za8 (id:=11) ?_;exfalso;omega)|(refine za8 (id:=10) ?_;refine zab (zfY (l:=[(0,_),(6,_),(7,_),(9,_),(10,_),(11,_)]) (bl:=[(6,_),(7,_),(9,_),(10,_)]) ⟨zz rfl rfl,zz rfl rfl,zz rfl rfl,zz rfl rfl,zz rfl rfl,zz rfl rfl,trivial⟩ ⟨zw rfl rfl,zw rfl rfl,zw rfl rfl,zw rfl rfl,trivial⟩) ?_;refine za ?_)|(refine za8 (id:=12) ?_;refine zab (zfY (l:=[(0,_),(6,_),(7,_),(9,_),(10,_)]) (bl:=[(6,_),(7,_),(9,_),(10,_)]) ⟨zz rfl rfl,zz rfl rfl,zz rfl rfl,zz rfl rfl,zz rfl rfl,trivial⟩ ⟨zw rfl rfl,zw rfl rfl,zw rfl rfl,zw rfl rfl,trivial⟩) ?_;refine zD (id:=12) zw2 rfl (by kernel_rfl) ?_)|refine zad 0 rfl hmd rfl rfl rfl ?_|refine zu (.inl ⟨rfl,zI hty rfl rfl⟩) ?_|refine zS ⟨by kernel_rfl,?_⟩|refine WL_p hty rfl rfl ?_|refine zh ?_|refine zi ?_|refine za ?_|refine zxg ?_|refine zd rfl ?_|refine zbZ rfl ?_|refine zg ?_|refine zx rfl rfl ?_|refine zj rfl rfl rfl rfl (fun _=>?_) (fun _=>?_))
     exact zH rfl rfl (.refl _)
    |true=>
     obtain⟨h0,⟨con,hcg⟩,hlz2⟩:=hmv rfl
     simp only at h0 hcg hlz2
     have h2:=zob e c con l h0 hcg (by omega) (by omega)
     rw[show zpU e (c,l,true)=some (instT con.dec l 0) by simp only[zpU,if_true,hcg,Option.map_some]]
     refine⟨_,⟨_,_,rfl,rfl,h2⟩,?_⟩
     generalize (zF t).1=f at hsp hof
     generalize (zF t).2=args at*
     refine zo hty Tryz.func122 rfl rfl rfl fun w0=>?_
     repeat'(first|exact absurd (by assumption) k6|exact absurd k6 (by assumption)|exact absurd k4 ‹_›|refine zv 0 rfl hsp rfl rfl rfl ?_|refine zv 0 rfl hof rfl rfl rfl ?_|(refine za8 (id:=5) ?_;refine zab (zfY (l:=[(0,_),(6,_),(7,_)]) (bl:=[(6,_),(7,_)]) ⟨zz rfl rfl,zz rfl rfl,zz rfl rfl,trivial⟩ ⟨zw rfl rfl,zw rfl rfl,trivial⟩) ?_;refine zD (id:=5) zP rfl (by kernel_rfl) ?_)|refine zbc rfl (zaq hty rfl rfl rfl hl0 hlr rfl) ?_|refine zbc rfl (zaq hty rfl rfl rfl (by assumption) rs rfl) ?_|(refine za8 (id:=11) ?_;exfalso;omega)|(refine za8 (id:=10) ?_;refine zab (zfY (l:=[(0,_),(6,_),(7,_),(9,_),(10,_),(11,_)]) (bl:=[(6,_),(7,_),(9,_),(10,_)]) ⟨zz rfl rfl,zz rfl rfl,zz rfl rfl,zz rfl rfl,zz rfl rfl,zz rfl rfl,trivial⟩ ⟨zw rfl rfl,zw rfl rfl,zw rfl rfl,zw rfl rfl,trivial⟩) ?_;refine za ?_)|(refine za8 (id:=12) ?_;refine zab (zfY (l:=[(0,_),(6,_),(7,_),(9,_),(10,_)]) (bl:=[(6,_),(7,_),(9,_),(10,_)]) ⟨zz rfl rfl,zz rfl rfl,zz rfl rfl,zz rfl rfl,zz rfl rfl,trivial⟩ ⟨zw rfl rfl,zw rfl rfl,zw rfl rfl,zw rfl rfl,trivial⟩) ?_;refine zD (id:=12) zw2 rfl (by kernel_rfl) ?_)|refine zad 0 rfl hmd rfl rfl rfl ?_|(refine za8 (id:=16) ?_;refine zab (z6 7 rfl rfl) ?_;refine zab (z6 12 rfl rfl) ?_;refine zab (z6 13 rfl rfl) ?_;refine za ?_)|refine WL_m rfl (zbo rfl rfl rfl) ?_|refine zu (.inl ⟨rfl,zI hty rfl rfl⟩) ?_|refine zS ⟨by kernel_rfl,?_⟩|refine WL_p hty rfl rfl ?_|refine zh ?_|refine zi ?_|refine za ?_|refine zxg ?_|refine zd rfl ?_|refine zbZ rfl ?_|refine zg ?_|refine zx rfl rfl ?_|refine zj rfl rfl rfl rfl (fun _=>?_) (fun _=>?_))
     exact zH rfl rfl (.refl _)
   ·have hsr:zbE env t=none:=by unfold zbE;simp only[ho,if_neg k6,if_pos k4,if_neg hln]
    rw[hsr]
    refine⟨_,rfl,?_⟩
    generalize (zF t).1=f at hsp hof
    generalize (zF t).2=args at*
    refine zo hty Tryz.func122 rfl rfl rfl fun w0=>?_
    repeat'(first|exact absurd (by assumption) k6|exact absurd k6 (by assumption)|exact absurd k4 ‹_›|refine zv 0 rfl hsp rfl rfl rfl ?_|refine zv 0 rfl hof rfl rfl rfl ?_|(refine za8 (id:=5) ?_;refine zab (zfY (l:=[(0,_),(6,_),(7,_)]) (bl:=[(6,_),(7,_)]) ⟨zz rfl rfl,zz rfl rfl,zz rfl rfl,trivial⟩ ⟨zw rfl rfl,zw rfl rfl,trivial⟩) ?_;refine zD (id:=5) zP rfl (by kernel_rfl) ?_)|refine zbc rfl (zaq hty rfl rfl rfl (by assumption) rs rfl) ?_|(refine za8 (id:=12) ?_;exfalso;omega)|refine zu (.inl ⟨rfl,zI hty rfl rfl⟩) ?_|refine zS ⟨by kernel_rfl,?_⟩|refine WL_p hty rfl rfl ?_|refine zh ?_|refine zi ?_|refine za ?_|refine zxg ?_|refine zd rfl ?_|refine zbZ rfl ?_|refine zg ?_|refine zx rfl rfl ?_|refine zj rfl rfl rfl rfl (fun _=>?_) (fun _=>?_))
    exact zH rfl rfl (.refl _)
  ·have hsr:zbE env t=none:=by unfold zbE;simp only[ho,if_neg k6,if_neg k4]
   rw[hsr]
   refine⟨_,rfl,?_⟩
   generalize (zF t).1=f at hsp hof
   generalize (zF t).2=args at hsp
   refine zo hty Tryz.func122 rfl rfl rfl fun w0=>?_
   repeat'(first|exact absurd k6 (by assumption)|exact absurd k4 (by assumption)|refine zv 0 rfl hsp rfl rfl rfl ?_|refine zv 0 rfl hof rfl rfl rfl ?_|refine WL_p hty rfl rfl ?_|refine zh ?_|refine zi ?_|refine za ?_|refine zd rfl ?_|refine zg ?_|refine zx rfl rfl ?_|refine zj rfl rfl rfl rfl (fun _=>?_) (fun _=>?_))
   exact zH rfl rfl (.refl _)
end Go.Proofs.YtokfbblhjpfjkaaGreat
namespace Go.Proofs.YtokfbblhjpfjkaaGreat
open Go.Aw Go.RowKit
def zBr:List (Nat×List Nat):=[(0,[]),(1,[0]),(2,[0,1]),(3,[0,1,2]),(4,[]),(5,[4]),(6,[4,5]),(7,[4,5,6]),(8,[4,5,6,7]),(9,[4,5,6,7,8]),(10,[4,5,6,7,8,9]),(11,[0,1,2,3,4,5,6,7,8,9,10]),(12,[0,1,2,3,4,5,6,7,8,9,10,11]),(13,[0,1,2,3,4,5,6,7,8,9,10,11,12]),(14,[0,1,2,3,4,5,6,7,8,9,10,11,12,13])]
attribute [local irreducible] WL AC WD WE MStep OkOp
attribute [local irreducible] zfd
set_option maxHeartbeats 8000000 in
theorem zpX(env:List En)(t:Tm)(hl:zbJ env≤1048576)(hv:envI env=0)(hs:t.size≤6000)(hfm:formedT t=true): ∃ v,Runs v (lookR env t)∧FC Tryz.prog 81 [sE env,aT t] v:=by
 have hsz:=t.size_eq
 have hlen:=zbl hfm
 have hel:=zbU env
 obtain⟨v,hrv,hspn⟩:=znD env t hl hv hs hfm
 obtain⟨ht1,ht2,_⟩:=hrv.thaw
 by_cases k6:t.kind=6
 ·obtain⟨f,a,hk⟩:=zkN (l:=t.kids) (by rw[hlen,k6];rfl)
  have r0:(rsT t.kids)[0]? =some (cT f):=by rw[hk,rs2];rfl
  have hlr:lookR env t=if f.kind=5 then some (instT (f.kids.getD 1 zT) (t.kids.drop 1) 0)else zbE env t:=by unfold lookR;simp only[k6,hk];rfl
  rw[hlr]
  by_cases hf:f.kind=5
  ·have hff:=zao hfm (show f∈t.kids by rw[hk];exact List.mem_cons_self)
   obtain⟨x,b,hfk⟩:=zkN (l:=f.kids) (by rw[zbl hff,hf];rfl)
   have hfs:=zK (show f∈t.kids by rw[hk];exact List.mem_cons_self)
   have h1:=zjp f t b (by rw[hfk];rfl) (by rw[hk];simp) (by omega) (by omega)
   rw[if_pos hf,show f.kids.getD 1 zT=b by rw[hfk];rfl]
   refine⟨_,⟨_,_,rfl,rfl,h1⟩,?_⟩
   refine zo hty Tryz.func81 rfl rfl rfl fun w0=>?_
   repeat'(first|exact absurd k6 ‹_›|exact absurd hf ‹_›|refine WL_m rfl (zm (i:=0) hty rfl rfl rfl r0 rfl) ?_|(refine zbd (z6 5 rfl rfl) ?_;refine zbd (z6 3 rfl rfl) ?_;refine WL_m rfl (zbo rfl rfl rfl) ?_)|refine WL_p hty rfl rfl ?_|refine zh ?_|refine zi ?_|refine za ?_|refine zf ?_|refine zd rfl ?_|refine zg ?_|refine zj rfl rfl rfl rfl (fun _=>?_) (fun _=>?_))
   exact zH rfl rfl (.refl _)
  ·rw[if_neg hf]
   refine⟨v,hrv,?_⟩
   refine zo hty Tryz.func81 rfl rfl rfl fun w0=>?_
   repeat'(first|exact absurd k6 ‹_›|exact absurd (by assumption) hf|refine WL_m rfl (zm (i:=0) hty rfl rfl rfl r0 rfl) ?_|refine zv 0 rfl hspn ht1 rfl rfl ?_|refine WL_p hty rfl rfl ?_|refine zh ?_|refine zi ?_|refine za ?_|refine zf ?_|refine zxg ?_|refine zd rfl ?_|refine zbZ rfl ?_|refine zg ?_|refine zj rfl rfl rfl rfl (fun _=>?_) (fun _=>?_))
   exact zH rfl (ht2 _) (.refl _)
 by_cases k9:t.kind=9
 ·obtain⟨p,hk⟩:=zqo (l:=t.kids) (by rw[hlen,k9];rfl)
  have r0:(rsT t.kids)[0]? =some (cT p):=by rw[hk,rs1];rfl
  have hl:lookR env t=if p.kind=8 then some (p.kids.getD 1 zT,0)else none:=by unfold lookR;simp only[k9,hk];rfl
  rw[hl]
  by_cases hp:p.kind=8
  ·have hpf:=zao hfm (show p∈t.kids by rw[hk];exact List.mem_cons_self)
   obtain⟨x,y,z,hpk⟩:=zle (l:=p.kids) (by rw[zbl hpf,hp];rfl)
   have q1:(rsT p.kids)[1]? =some (cT y):=by rw[hpk,rs3];rfl
   rw[if_pos hp,hpk]
   refine⟨zoO (.done y),⟨_,_,rfl,rfl,zd2 y⟩,?_⟩
   refine zo hty Tryz.func81 rfl rfl rfl fun w0=>?_
   repeat'(first|exact absurd (by assumption) k6|exact absurd k9 ‹_›|exact absurd hp ‹_›|refine WL_m rfl (zm (i:=0) hty rfl rfl rfl r0 rfl) ?_|refine WL_m rfl (zm (i:=1) hty rfl rfl rfl q1 rfl) ?_|refine zv 0 rfl (zcX y) rfl rfl rfl ?_|refine WL_p hty rfl rfl ?_|refine zh ?_|refine zi ?_|refine za ?_|refine zf ?_|refine zd rfl ?_|refine zbZ rfl ?_|refine zg ?_|refine zj rfl rfl rfl rfl (fun _=>?_) (fun _=>?_))
   exact zH rfl rfl (.refl _)
  ·rw[if_neg hp]
   refine⟨_,rfl,?_⟩
   refine zo hty Tryz.func81 rfl rfl rfl fun w0=>?_
   repeat'(first|exact absurd (by assumption) k6|exact absurd k9 ‹_›|exact absurd (by assumption) hp|refine WL_m rfl (zm (i:=0) hty rfl rfl rfl r0 rfl) ?_|refine WL_p hty rfl rfl ?_|refine zh ?_|refine zi ?_|refine za ?_|refine zf ?_|refine zxg ?_|refine zd rfl ?_|refine zbZ rfl ?_|refine zg ?_|refine zj rfl rfl rfl rfl (fun _=>?_) (fun _=>?_))
   exact zH rfl rfl (.refl _)
 by_cases k10:t.kind=10
 ·obtain⟨p,hk⟩:=zqo (l:=t.kids) (by rw[hlen,k10];rfl)
  have r0:(rsT t.kids)[0]? =some (cT p):=by rw[hk,rs1];rfl
  have hl:lookR env t=if p.kind=8 then some (p.kids.getD 2 zT,0)else none:=by unfold lookR;simp only[k10,hk];rfl
  rw[hl]
  by_cases hp:p.kind=8
  ·have hpf:=zao hfm (show p∈t.kids by rw[hk];exact List.mem_cons_self)
   obtain⟨x,y,z,hpk⟩:=zle (l:=p.kids) (by rw[zbl hpf,hp];rfl)
   have q1:(rsT p.kids)[2]? =some (cT z):=by rw[hpk,rs3];rfl
   rw[if_pos hp,hpk]
   refine⟨zoO (.done z),⟨_,_,rfl,rfl,zd2 z⟩,?_⟩
   refine zo hty Tryz.func81 rfl rfl rfl fun w0=>?_
   repeat'(first|exact absurd (by assumption) k6|exact absurd (by assumption) k9|exact absurd k10 ‹_›|exact absurd hp ‹_›|refine WL_m rfl (zm (i:=0) hty rfl rfl rfl r0 rfl) ?_|refine WL_m rfl (zm (i:=2) hty rfl rfl rfl q1 rfl) ?_|refine zv 0 rfl (zcX z) rfl rfl rfl ?_|refine WL_p hty rfl rfl ?_|refine zh ?_|refine zi ?_|refine za ?_|refine zf ?_|refine zd rfl ?_|refine zbZ rfl ?_|refine zg ?_|refine zj rfl rfl rfl rfl (fun _=>?_) (fun _=>?_))
   exact zH rfl rfl (.refl _)
  ·rw[if_neg hp]
   refine⟨_,rfl,?_⟩
   refine zo hty Tryz.func81 rfl rfl rfl fun w0=>?_
   repeat'(first|exact absurd (by assumption) k6|exact absurd (by assumption) k9|exact absurd k10 ‹_›|exact absurd (by assumption) hp|refine WL_m rfl (zm (i:=0) hty rfl rfl rfl r0 rfl) ?_|refine WL_p hty rfl rfl ?_|refine zh ?_|refine zi ?_|refine za ?_|refine zf ?_|refine zxg ?_|refine zd rfl ?_|refine zbZ rfl ?_|refine zg ?_|refine zj rfl rfl rfl rfl (fun _=>?_) (fun _=>?_))
   exact zH rfl rfl (.refl _)
 by_cases k13:t.kind=13
 ·obtain⟨a,b,r,hk⟩:=zle (l:=t.kids) (by rw[hlen,k13];rfl)
  have r1:(rsT t.kids)[1]? =some (cT b):=by rw[hk,rs3];rfl
  have r2:(rsT t.kids)[2]? =some (cT r):=by rw[hk,rs3];rfl
  have hl:lookR env t=if r.kind=12 then some (.mk 6 0 [b,r.kids.getD 1 zT],0)else none:=by unfold lookR;simp only[k13,hk];rfl
  rw[hl]
  by_cases hp:r.kind=12
  ·have hpf:=zao hfm (show r∈t.kids by rw[hk];simp)
   obtain⟨x,y,hpk⟩:=zkN (l:=r.kids) (by rw[zbl hpf,hp];rfl)
   have q1:(rsT r.kids)[1]? =some (cT y):=by rw[hpk,rs2];rfl
   rw[if_pos hp,hpk]
   have hnd:=(zdZ 6 [b,y]).args (xs:=[.int .i64 6,.lst 3 [cT b,cT y] true]) (.cons (.refl _) (.cons (by rw[←rs2];exact .full _ _ _) .nil))
   refine⟨zoO (.done (.mk 6 0 [b,y])),⟨_,_,rfl,rfl,zd2 _⟩,?_⟩
   refine zo hty Tryz.func81 rfl rfl rfl fun w0=>?_
   repeat'(first|exact absurd (by assumption) k6|exact absurd (by assumption) k9|exact absurd (by assumption) k10|exact absurd k13 ‹_›|exact absurd hp ‹_›|refine WL_m rfl (zm (i:=2) hty rfl rfl rfl r2 rfl) ?_|refine zD (id:=15) zBr rfl (by kernel_rfl) ?_|refine zu (.inl ⟨rfl,zm (i:=1) hty rfl rfl rfl r1 rfl⟩) ?_|refine zu (.inl ⟨rfl,zm (i:=2) hty rfl rfl rfl r2 rfl⟩) ?_|refine zu (.inl ⟨rfl,zm (i:=1) hty rfl rfl rfl q1 rfl⟩) ?_|refine zu (.inl ⟨rfl,zar 0 rfl hnd rfl rfl rfl⟩) ?_|refine zu (.inl ⟨rfl,zar 0 rfl (zcX _) rfl rfl rfl⟩) ?_|refine zu (.inl ⟨rfl,zI hty rfl rfl⟩) ?_|refine zS ⟨by kernel_rfl,?_⟩|refine WL_p hty rfl rfl ?_|refine zh ?_|refine zi ?_|refine za ?_|refine zf ?_|refine zd rfl ?_|refine zbZ rfl ?_|refine zg ?_|refine zj rfl rfl rfl rfl (fun _=>?_) (fun _=>?_))
   exact zH rfl rfl (.refl _)
  ·rw[if_neg hp]
   refine⟨_,rfl,?_⟩
   refine zo hty Tryz.func81 rfl rfl rfl fun w0=>?_
   repeat'(first|exact absurd (by assumption) k6|exact absurd (by assumption) k9|exact absurd (by assumption) k10|exact absurd k13 ‹_›|exact absurd (by assumption) hp|refine WL_m rfl (zm (i:=2) hty rfl rfl rfl r2 rfl) ?_|refine WL_p hty rfl rfl ?_|refine zh ?_|refine zi ?_|refine za ?_|refine zf ?_|refine zxg ?_|refine zd rfl ?_|refine zbZ rfl ?_|refine zg ?_|refine zj rfl rfl rfl rfl (fun _=>?_) (fun _=>?_))
   exact zH rfl rfl (.refl _)
 by_cases k3:t.kind=3
 ·have hof:=zhv env t (by omega) (fun _=>zdg hfm)
  have hl:lookR env t=match ofE env t with|some e=>if e.kind=2 then some (e.body,0)else none|none=>none:=by
   unfold lookR;rw[if_neg k6,if_neg k9,if_neg k10,if_neg k13,if_pos k3];try rfl
  cases ho:ofE env t with
  |none=>
   rw[ho]at hof hl
   rw[show lookR env t=none from hl]
   refine⟨_,rfl,?_⟩
   refine zo hty Tryz.func81 rfl rfl rfl fun w0=>?_
   repeat'(first|exact absurd (by assumption) k6|exact absurd (by assumption) k9|exact absurd (by assumption) k10|exact absurd (by assumption) k13|exact absurd k3 ‹_›|refine zv 0 rfl hof rfl rfl rfl ?_|refine WL_p hty rfl rfl ?_|refine zh ?_|refine zi ?_|refine za ?_|refine zf ?_|refine zxg ?_|refine zd rfl ?_|refine zbZ rfl ?_|refine zg ?_|refine zq rfl rfl rfl ?_|refine zj rfl rfl rfl rfl (fun _=>?_) (fun _=>?_))
   exact zH rfl rfl (.refl _)
  |some e=>
   rw[ho]at hof hl
   rw[show lookR env t=if e.kind=2 then some (e.body,0)else none from hl]
   by_cases hk:e.kind=2
   ·rw[if_pos hk]
    refine⟨zoO (.done e.body),⟨_,_,rfl,rfl,zd2 _⟩,?_⟩
    refine zo hty Tryz.func81 rfl rfl rfl fun w0=>?_
    repeat'(first|exact absurd (by assumption) k6|exact absurd (by assumption) k9|exact absurd (by assumption) k10|exact absurd (by assumption) k13|exact absurd k3 ‹_›|exact absurd hk ‹_›|refine zv 0 rfl hof rfl rfl rfl ?_|refine zv 0 rfl (zcX _) rfl rfl rfl ?_|refine WL_p hty rfl rfl ?_|refine zh ?_|refine zi ?_|refine za ?_|refine zf ?_|refine zd rfl ?_|refine zbZ rfl ?_|refine zg ?_|refine zx rfl rfl ?_|refine zj rfl rfl rfl rfl (fun _=>?_) (fun _=>?_))
    exact zH rfl rfl (.refl _)
   ·rw[if_neg hk]
    refine⟨_,rfl,?_⟩
    refine zo hty Tryz.func81 rfl rfl rfl fun w0=>?_
    repeat'(first|exact absurd (by assumption) k6|exact absurd (by assumption) k9|exact absurd (by assumption) k10|exact absurd (by assumption) k13|exact absurd k3 ‹_›|exact absurd (by assumption) hk|refine zv 0 rfl hof rfl rfl rfl ?_|refine WL_p hty rfl rfl ?_|refine zh ?_|refine zi ?_|refine za ?_|refine zf ?_|refine zxg ?_|refine zd rfl ?_|refine zbZ rfl ?_|refine zg ?_|refine zx rfl rfl ?_|refine zj rfl rfl rfl rfl (fun _=>?_) (fun _=>?_))
    exact zH rfl rfl (.refl _)
 ·have hl:lookR env t=none:=by
   unfold lookR
   rw[if_neg k6,if_neg k9,if_neg k10,if_neg k13,if_neg k3]
  rw[hl]
  refine⟨_,rfl,?_⟩
  refine zo hty Tryz.func81 rfl rfl rfl fun w0=>?_
  repeat'(first|exact absurd (by assumption) k6|exact absurd (by assumption) k9|exact absurd (by assumption) k10|exact absurd (by assumption) k13|exact absurd (by assumption) k3|refine WL_p hty rfl rfl ?_|refine zh ?_|refine zi ?_|refine za ?_|refine zf ?_|refine zxg ?_|refine zbZ rfl ?_|refine zg ?_|refine zj rfl rfl rfl rfl (fun _=>?_) (fun _=>?_))
  exact zH rfl rfl (.refl _)
end Go.Proofs.YtokfbblhjpfjkaaGreat
namespace Go.Proofs.YtokfbblhjpfjkaaGreat
open Go.Aw Go.RowKit
attribute [local irreducible] WL AC WD WE MStep OkOp
attribute [local irreducible] zfd
theorem zqG:zT.size=1:=rfl
theorem zoS(b:Bl)(base:Int)(co:Cn)(m:Tm)(x y z:List Tm):(makeT b base co m x y z).1.size≤6000:=by
 unfold makeT
 split
 ·rw[zqG];omega
 ·split
  ·rw[zqG];omega
  ·rename_i h
   exact(zcH (Classical.not_not.1 h)).1
theorem zp0{e:En}{l:List Tm}{mv:Int×List Tm×Bool}{u:Tm×Int}(h:ziX e l mv=some u):u.1.size≤6000:=by
 unfold ziX at h
 split at h
 ·obtain⟨con,_,rfl⟩:=Option.map_eq_some_iff.1 h
  exact zoS _ _ _ _ _ _ _
 ·cases h
theorem zra{e:En}{mv:Int×List Tm×Bool}{u:Tm×Int}(h:zpU e mv=some u):u.1.size≤6000:=by
 unfold zpU at h
 split at h
 ·obtain⟨con,_,rfl⟩:=Option.map_eq_some_iff.1 h
  exact zeB _ _ _
 ·cases h
theorem zoi{env:List En}{t:Tm}{u:Tm×Int}(h:zbE env t=some u):u.1.size≤6000:=by
 unfold zbE at h
 split at h
 ·cases h
 ·split at h
  ·split at h
   ·cases h
   ·split at h
    ·exact zp0 h
    ·cases h
  ·split at h
   ·split at h
    ·exact zra h
    ·cases h
   ·cases h
theorem zpq{env:List En}{t:Tm}{u:Tm×Int}(hl:zbJ env≤1048576)(hs:t.size≤6000)(h:lookR env t=some u):u.1.size≤1048576:=by
 have ht:=t.size_eq
 unfold lookR at h
 split at h
 ·split at h
  ·split at h
   ·obtain rfl:=Option.some.inj h
    exact Nat.le_trans (zeB _ _ _) (by omega)
   ·have:=zoi h;omega
  ·cases h
 ·split at h
  ·split at h
   ·rename_i p hk
    split at h
    ·obtain rfl:=Option.some.inj h
     have:=zdI p.kids 1
     rw[hk]at ht
     have hp:=p.size_eq
     simp only[sizes]at ht
     simp only;omega
    ·cases h
   ·cases h
  ·split at h
   ·split at h
    ·rename_i p hk
     split at h
     ·obtain rfl:=Option.some.inj h
      have:=zdI p.kids 2
      rw[hk]at ht
      have hp:=p.size_eq
      simp only[sizes]at ht
      simp only;omega
     ·cases h
    ·cases h
   ·split at h
    ·split at h
     ·rename_i a b r hk
      split at h
      ·obtain rfl:=Option.some.inj h
       have:=zdI r.kids 1
       rw[hk]at ht
       have hp:=r.size_eq
       have ha:=a.size_pos
       simp only[sizes]at ht
       simp only[Tm.size,sizes]
       omega
      ·cases h
     ·cases h
    ·split at h
     ·split at h
      ·rename_i e he
       split at h
       ·obtain rfl:=Option.some.inj h
        obtain⟨j,hj⟩:=ziR he
        have:=zbn (List.mem_of_getElem? hj)
        have:e.size=e.typ.size+e.body.size+e.block.size:=rfl
        simp only;omega
       ·cases h
      ·cases h
     ·cases h
def zvR(env:List En)(t:Tm):Tm×Int:=if envI env≠0 then(zT,envI env)else if checkT t≠0 then(zT,checkT t)else match lookR env t with
 |none=>(zT,10)
 |some u=>if u.2≠0 then(zT,u.2)else(u.1,0)
def isR(env:List En)(t:Tm):Bool:=decide (envI env=0)&&(decide (checkT t=0)&&(lookR env t).isSome)
end Go.Proofs.YtokfbblhjpfjkaaGreat
namespace Go.Proofs.YtokfbblhjpfjkaaGreat
open Go.Aw Go.RowKit
theorem zuW(env:List En)(hl:zbJ env≤1048576):LK 12 (rsE env) false (envI env) (lookR env) where
 ck:=zsy env hl
 look:=fun h t ht hf=>zpX env t hl h ht hf
 size:=fun t u ht h=>zpq hl ht h
end Go.Proofs.YtokfbblhjpfjkaaGreat
