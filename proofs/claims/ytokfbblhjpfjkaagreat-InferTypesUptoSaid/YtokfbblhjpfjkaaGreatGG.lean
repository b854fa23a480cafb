/- DERIVED: THE SHELF's CONTRACTS AT THIS DUMP, IN PLAIN WORDS (tools/lay-plain.mjs -/
import Derived.Shelf.SlIterI.Nil
import Derived.Shelf.SortM.Plain
import Derived.Shelf.SortM.SortNone
import Derived.Ground.GgzProg
import Derived.Ground.SlgmProg
import Derived.Test.YtokfbblhjpfjkaaGreatProg
import Derived.Test.YtokfbblhjpfjkaaGreatGC
import Derived.Test.YtokfbblhjpfjkaaGreatGB
set_option linter.unusedSimpArgs false
set_option linter.unusedVariables false
namespace Go.Proofs
open Go.Shelf
def YtokfbblhjpfjkaaGreat.keysA_ren:Go.Shelf.Ren:=⟨fun|7=>204|10=>234|n=>n,fun|23=>189|26=>3|3=>4|28=>193|0=>0|27=>192|33=>92|4=>4|n=>n,fun|n=>n⟩
theorem YtokfbblhjpfjkaaGreat.keysA:Go.Proofs.SlLaysZI.n7 Tryz.prog YtokfbblhjpfjkaaGreat.keysA_ren:={
 mixed:=by kernel_rfl
 f7:=⟨Tryz.f204.name,by decide,Tryz.func204.trans (congrArg some (by kernel_rfl))⟩
 f10:=⟨Tryz.f234.name,by decide,Tryz.func234.trans (congrArg some (by kernel_rfl))⟩
 t0:=Tryz.underlying0
 a0:=Tryz.isAgg0
 z0:=Tryz.sizeOf0
 v0:=Tryz.zeroValue0
 t4:=Tryz.underlying4
 a4:=Tryz.isAgg4
 z4:=Tryz.sizeOf4
 v4:=Tryz.zeroValue4
 t23:=Tryz.underlying189
 a23:=Tryz.isAgg189
 z23:=Tryz.sizeOf189
 v23:=Tryz.zeroValue189
 t26:=Tryz.underlying3
 a26:=Tryz.isAgg3
 z26:=Tryz.sizeOf3
 v26:=Tryz.zeroValue3
 t27:=Tryz.underlying192
 a27:=Tryz.isAgg192
 z27:=Tryz.sizeOf192
 v27:=Tryz.zeroValue192
 t28:=Tryz.underlying193
 a28:=Tryz.isAgg193
 z28:=Tryz.sizeOf193
 v28:=Tryz.zeroValue193
 t33:=Tryz.underlying92
 a33:=Tryz.isAgg92
 z33:=Tryz.sizeOf92
 v33:=Tryz.zeroValue92}
def YtokfbblhjpfjkaaGreat.sortedA_ren:Go.Shelf.Ren:=⟨fun|6=>203|8=>232|9=>233|11=>247|13=>249|12=>248|23=>260|24=>261|14=>251|15=>252|16=>253|17=>254|18=>255|19=>256|20=>257|21=>258|22=>259|25=>263|26=>264|27=>265|28=>266|29=>267|30=>268|31=>270|n=>n,fun|26=>3|28=>193|24=>50|0=>0|3=>3|37=>42|48=>237|50=>239|4=>4|40=>230|39=>229|45=>187|5=>5|9=>9|51=>243|55=>247|57=>250|58=>180|33=>92|n=>n,fun|n=>n⟩
theorem YtokfbblhjpfjkaaGreat.sortedA:Go.Proofs.SlLaysZI.n6 Tryz.prog YtokfbblhjpfjkaaGreat.sortedA_ren:={
 mixed:=by kernel_rfl
 f6:=⟨Tryz.f203.name,by decide,Tryz.func203.trans (congrArg some (by kernel_rfl))⟩
 f8:=⟨Tryz.f232.name,by decide,Tryz.func232.trans (congrArg some (by kernel_rfl))⟩
 f11:=⟨Tryz.f247.name,by decide,Tryz.func247.trans (congrArg some (by kernel_rfl))⟩
 t0:=Tryz.underlying0
 a0:=Tryz.isAgg0
 z0:=Tryz.sizeOf0
 v0:=Tryz.zeroValue0
 t24:=Tryz.underlying50
 a24:=Tryz.isAgg50
 z24:=Tryz.sizeOf50
 v24:=Tryz.zeroValue50
 t26:=Tryz.underlying3
 a26:=Tryz.isAgg3
 z26:=Tryz.sizeOf3
 v26:=Tryz.zeroValue3
 t28:=Tryz.underlying193
 a28:=Tryz.isAgg193
 z28:=Tryz.sizeOf193
 v28:=Tryz.zeroValue193
 i26:=by kernel_rfl}
def YtokfbblhjpfjkaaGreat.sortA_ren:Go.Shelf.Ren:=⟨fun|5=>233|8=>249|7=>248|19=>260|20=>261|10=>251|11=>252|12=>253|13=>254|14=>255|15=>256|16=>257|17=>258|18=>259|30=>263|31=>264|32=>265|33=>266|34=>267|35=>268|40=>270|n=>n,fun|23=>50|25=>3|3=>3|32=>42|22=>50|0=>0|44=>237|46=>239|4=>4|36=>230|35=>229|41=>187|5=>5|9=>9|53=>243|57=>247|63=>250|64=>180|n=>n,fun|n=>n⟩
theorem YtokfbblhjpfjkaaGreat.sortA:Go.Proofs.SlLaysM.n5 Tryz.prog YtokfbblhjpfjkaaGreat.sortA_ren:={
 mixed:=by kernel_rfl
 f5:=⟨Tryz.f233.name,by decide,Tryz.func233.trans (congrArg some (by kernel_rfl))⟩
 f7:=⟨Tryz.f248.name,by decide,Tryz.func248.trans (congrArg some (by kernel_rfl))⟩
 f8:=Tryz.func249.trans (congrArg some (by kernel_rfl))
 f10:=⟨Tryz.f251.name,by decide,Tryz.func251.trans (congrArg some (by kernel_rfl))⟩
 f11:=⟨Tryz.f252.name,by decide,Tryz.func252.trans (congrArg some (by kernel_rfl))⟩
 f12:=⟨Tryz.f253.name,by decide,Tryz.func253.trans (congrArg some (by kernel_rfl))⟩
 f13:=⟨Tryz.f254.name,by decide,Tryz.func254.trans (congrArg some (by kernel_rfl))⟩
 f14:=⟨Tryz.f255.name,by decide,Tryz.func255.trans (congrArg some (by kernel_rfl))⟩
 f15:=⟨Tryz.f256.name,by decide,Tryz.func256.trans (congrArg some (by kernel_rfl))⟩
 f16:=⟨Tryz.f257.name,by decide,Tryz.func257.trans (congrArg some (by kernel_rfl))⟩
 f17:=⟨Tryz.f258.name,by decide,Tryz.func258.trans (congrArg some (by kernel_rfl))⟩
 f18:=⟨Tryz.f259.name,by decide,Tryz.func259.trans (congrArg some (by kernel_rfl))⟩
 f19:=Tryz.func260.trans (congrArg some (by kernel_rfl))
 f20:=Tryz.func261.trans (congrArg some (by kernel_rfl))
 f30:=⟨Tryz.f263.name,by decide,Tryz.func263.trans (congrArg some (by kernel_rfl))⟩
 f31:=Tryz.func264.trans (congrArg some (by kernel_rfl))
 f32:=Tryz.func265.trans (congrArg some (by kernel_rfl))
 f33:=⟨Tryz.f266.name,by decide,Tryz.func266.trans (congrArg some (by kernel_rfl))⟩
 f34:=⟨Tryz.f267.name,by decide,Tryz.func267.trans (congrArg some (by kernel_rfl))⟩
 f35:=⟨Tryz.f268.name,by decide,Tryz.func268.trans (congrArg some (by kernel_rfl))⟩
 f40:=⟨Tryz.f270.name,by decide,Tryz.func270.trans (congrArg some (by kernel_rfl))⟩
 t0:=Tryz.underlying0
 a0:=Tryz.isAgg0
 z0:=Tryz.sizeOf0
 v0:=Tryz.zeroValue0
 t3:=Tryz.underlying3
 a3:=Tryz.isAgg3
 z3:=Tryz.sizeOf3
 v3:=Tryz.zeroValue3
 t4:=Tryz.underlying4
 a4:=Tryz.isAgg4
 z4:=Tryz.sizeOf4
 v4:=Tryz.zeroValue4
 t5:=Tryz.underlying5
 a5:=Tryz.isAgg5
 z5:=Tryz.sizeOf5
 v5:=Tryz.zeroValue5
 t9:=Tryz.underlying9
 a9:=Tryz.isAgg9
 z9:=Tryz.sizeOf9
 v9:=Tryz.zeroValue9
 t22:=Tryz.underlying50
 a22:=Tryz.isAgg50
 z22:=Tryz.sizeOf50
 v22:=Tryz.zeroValue50
 t23:=Tryz.underlying50
 a23:=Tryz.isAgg50
 z23:=Tryz.sizeOf50
 v23:=Tryz.zeroValue50
 t25:=Tryz.underlying3
 a25:=Tryz.isAgg3
 z25:=Tryz.sizeOf3
 v25:=Tryz.zeroValue3
 t32:=Tryz.underlying42
 a32:=Tryz.isAgg42
 z32:=Tryz.sizeOf42
 v32:=Tryz.zeroValue42
 t35:=Tryz.underlying229
 a35:=Tryz.isAgg229
 z35:=Tryz.sizeOf229
 v35:=Tryz.zeroValue229
 t36:=Tryz.underlying230
 a36:=Tryz.isAgg230
 z36:=Tryz.sizeOf230
 v36:=Tryz.zeroValue230
 t41:=Tryz.underlying187
 a41:=Tryz.isAgg187
 z41:=Tryz.sizeOf187
 v41:=Tryz.zeroValue187
 t44:=Tryz.underlying237
 a44:=Tryz.isAgg237
 z44:=Tryz.sizeOf237
 v44:=Tryz.zeroValue237
 t46:=Tryz.underlying239
 a46:=Tryz.isAgg239
 z46:=Tryz.sizeOf239
 v46:=Tryz.zeroValue239
 t53:=Tryz.underlying243
 a53:=Tryz.isAgg243
 z53:=Tryz.sizeOf243
 v53:=Tryz.zeroValue243
 t57:=Tryz.underlying247
 a57:=Tryz.isAgg247
 z57:=Tryz.sizeOf247
 v57:=Tryz.zeroValue247
 t63:=Tryz.underlying250
 a63:=Tryz.isAgg250
 z63:=Tryz.sizeOf250
 v63:=Tryz.zeroValue250
 t64:=Tryz.underlying180
 a64:=Tryz.isAgg180
 z64:=Tryz.sizeOf180
 v64:=Tryz.zeroValue180}
end Go.Proofs
namespace Go.Proofs.YtokfbblhjpfjkaaGreat
open Go.Aw Go.RowKit Go.Maps Go.Sort Go.Shelf
theorem sorts(m:Nat):AnyZI.SortsIn Tryz.prog sortedA_ren Fence.wide m:=
 ⟨fun blk off cap ss W hH hblk hsz=>callsIn_wide.2 (AnyM.slices_Sort_int sortA blk off cap ss W hH hblk hsz),
  fun p cap W=>callsIn_wide.2 (AnyM.slices_Sort_int_none sortA p cap W)⟩
theorem znR:SortedOf Tryz.prog 204 203 234 3 3 189 where
 keys mb w:=(callsIn_wide (n:=5)).1 (AnyZI.keys_in keysA Fence.wide 5 trivial rfl mb w)
 sorted b nn Bm D0 w hown hm hBm hmax hbytes:=by
  have hseq:SeqGives Fence.wide 2 Tryz.prog 234 #[.pointer (some ⟨Bm,0,none⟩)] encZ (fun ss=>ss.Perm (intKeys D0)) (Maps.size D0) w:=
   AnyZI.keys_gives (ρ:=keysA_ren) {keysA with} Fence.wide _ trivial rfl (by omega) Bm b nn D0 _ hBm hm hown
  have cS:=AnyZI.sorted_in sortedA Fence.wide 5 trivial trivial trivial trivial rfl (by omega) (sorts _) (enters_of Tryz.func233 (by kernel_rfl) rfl) 234 #[.pointer (some ⟨Bm,0,none⟩)] trivial (enters_of Tryz.func234 (by kernel_rfl) rfl) _ _ hmax hbytes _ hseq
  exact(callsIn_wide (n:=5)).1 cS
 fnK:=⟨_,Tryz.func204,rfl,rfl⟩
 fnS:=⟨_,Tryz.func203,rfl,rfl⟩
end Go.Proofs.YtokfbblhjpfjkaaGreat
namespace Go.Proofs.YtokfbblhjpfjkaaGreat
open Go.Aw Go.RowKit
attribute [local irreducible] WL AC WD WE MStep OkOp
mutual
def zlZ:Tm→(Int→Option AV)→Int→Option AV
 | .mk k n l,f=>zdY l (if k=3 then zgq f n (.bool true)else f)
def zdY:List Tm→(Int→Option AV)→Int→Option AV
 |[],f=>f
 |t::l,f=>zdY l (zlZ t f)
end
mutual
def zoo:Tm→Nat
 | .mk k _ l=>(if k=3 then 1 else 0)+zcm l
def zcm:List Tm→Nat
 |[]=>0
 |t::l=>zoo t+zcm l
end
theorem ztC(t:Tm)(f:Int→Option AV):zlZ t f=zdY t.kids (if t.kind=3 then zgq f t.num (.bool true)else f):=by cases t;rw[zlZ];rfl
theorem ztE(t:Tm):zoo t=(if t.kind=3 then 1 else 0)+zcm t.kids:=by cases t;rw[zoo];rfl
theorem zjH(t:Tm): ∀ (l:List Tm) (f:Int→Option AV),zdY (l++[t]) f=zlZ t (zdY l f)
 |[],f=>by simp[zdY]
 |u::l,f=>by simp only[List.cons_append,zdY,zjH t l]
theorem zjh(t:Tm): ∀ (l:List Tm),zcm (l++[t])=zcm l+zoo t
 |[]=>by simp[zcm]
 |u::l=>by simp only[List.cons_append,zcm,zjh t l];omega
theorem zo6{l:List Tm}{i:Nat}{t:Tm}(h:l[i]? =some t)(f:Int→Option AV):zdY (l.take (i+1)) f=zlZ t (zdY (l.take i) f):=by
 rw[List.take_add_one,h,Option.toList_some,zjH]
theorem zpG{l:List Tm}{i:Nat}{t:Tm}(h:l[i]? =some t):zcm (l.take (i+1))=zcm (l.take i)+zoo t:=by
 rw[List.take_add_one,h,Option.toList_some,zjh]
mutual
theorem zmD: ∀ t:Tm,zoo t≤t.size
 | .mk k _ l=>by
   have:=zi0 l
   rw[zoo,Tm.size_eq]
   show _≤1+sizes l
   split <;>omega
theorem zi0: ∀ l:List Tm,zcm l≤sizes l
 |[]=>Nat.le_refl _
 |t::l=>by
  have:=zmD t
  have:=zi0 l
  simp only[zcm,sizes];omega
end
theorem zjt(l:List Tm)(i:Nat):zcm (l.take i)≤zcm l:=by
 induction l generalizing i with
 |nil=>simp
 |cons t l ih=>cases i with
  |zero=>simp[zcm]
  |succ i=>have:=ih i;simp only[List.take_succ_cons,zcm];omega
theorem zkd: ∀ {l:List Tm} {i:Nat} {k:Tm},l[i]? =some k→zcm (l.take i)+k.size≤sizes l
 |[],i,k,h=>by simp at h
 |t::l,0,k,h=>by
  obtain rfl:=Option.some.inj (show some t=some k from h)
  simp[zcm,sizes]
 |t::l,i+1,k,h=>by
  have h1:=zkd (l:=l) (i:=i) (k:=k) (by simpa using h)
  have h2:=zmD t
  simp only[List.take_succ_cons,zcm,sizes];omega
theorem zvo:Tryz.prog.underlying 189=some (.map 3 4):=by kernel_rfl
theorem zmL:Tryz.prog.underlying 3=some (.int .i64):=by kernel_rfl
theorem zn3{i:Int}(h:0≤i∧i≤65535):(Lit.int .i64 i).wf=true:=by
 simp only[Lit.wf,Bool.and_eq_true,decide_eq_true_eq]
 exact⟨Int.le_trans (by decide) h.1,Int.le_trans h.2 (by decide)⟩
mutual
def okN:Tm→Bool
 | .mk k n l=>(decide (k≠3)||inR n 0 65535)&&zrW l
def zrW:List Tm→Bool
 |[]=>true
 |t::l=>okN t&&zrW l
end
theorem zs5(l:List Tm):zrW l=l.all okN:=by
 induction l with
 |nil=>rfl
 |cons t l ih=>simp[zrW,ih]
theorem zsX(t:Tm):okN t=((decide (t.kind≠3)||inR t.num 0 65535)&&t.kids.all okN):=by cases t;rw[okN,zs5];rfl
theorem ztu{t k:Tm}(h:okN t=true)(hk:k∈t.kids):okN k=true:=by
 rw[zsX,Bool.and_eq_true]at h
 exact List.all_eq_true.1 h.2 k hk
theorem ztz{t:Tm}(h:okN t=true)(hk:t.kind=3):0≤t.num∧t.num≤65535:=by
 rw[zsX,Bool.and_eq_true]at h
 simp only[hk,inR,ne_eq,not_true_eq_false,decide_false,Bool.false_or,Bool.and_eq_true,decide_eq_true_eq]at h
 exact h.1
theorem zlH{t:Tm}(h:formedT t=true):0≤t.num∧t.num≤65535:=by
 rw[za9]at h
 simp only[Bool.and_eq_true,Bool.or_eq_true,decide_eq_true_eq,inR]at h
 obtain⟨⟨_,h1,h2⟩,_⟩:=h
 rcases h1 with h1|h1
 ·rcases h2 with h2|h2
  ·exact absurd h2 h1
  ·omega
 ·exact h1
mutual
theorem zjX: ∀ t:Tm,formedT t=true→okN t=true
 | .mk k n l,h=>by
   have h1:=zlH h
   rw[formedT,Bool.and_eq_true]at h
   rw[okN,zio l h.2]
   simp only[Tm.num]at h1
   simp[inR,h1]
theorem zio: ∀ l:List Tm,zep l=true→zrW l=true
 |[],_=>rfl
 |t::l,h=>by
  rw[zep,Bool.and_eq_true]at h
  rw[zrW,zjX t h.1,zio l h.2];rfl
end
set_option maxHeartbeats 4000000 in
theorem zpe: ∀ n,n≤1048576→ ∀ (t:Tm) (m:Nat) (f:Int→Option AV),t.size≤n→okN t=true→m+t.size≤2097152→
 MC Tryz.prog 202 [aT t,.mp 0] (.mp none m f) (.tup []) (.mp none (m+zoo t) (zlZ t f)):=by
 intro n
 induction n with
 |zero=>intro hn t m f ht;have:=t.size_pos;omega
 |succ n ih=>
 intro hn t m f ht hfm hm
 have ih:=ih (by omega)
 have hs:=t.size_eq
 have hlen:=zM t.kids
 have hml:m <maxLen:=Nat.lt_of_le_of_lt (show m≤2097152 by omega) (by decide)
 have hce:=ztC t f
 have hne:=ztE t
 refine zcK hty Tryz.func202 rfl rfl rfl rfl rfl fun w0 B=>?_
 obtain⟨f0,hf0⟩: ∃ f0,f0=if t.kind=3 then zgq f t.num (.bool true)else f:=⟨_,rfl⟩
 obtain⟨m0,hm0⟩: ∃ m0:Nat,m0=if t.kind=3 then 1 else 0:=⟨_,rfl⟩
 have hm1:m0≤1:=by rw[hm0];split <;>omega
 rw[←hf0]at hce
 rw[←hm0]at hne
 repeat'(first|refine WL_m rfl (zfr zvo zmL rfl rfl rfl (zn3 (ztz hfm (by assumption))) rfl rfl hml) ?_|refine WL_p hty rfl rfl ?_|refine zh ?_|refine zi ?_|refine za ?_|refine zf ?_|refine zxg ?_|refine zd rfl ?_|refine zbZ rfl ?_|refine zj rfl rfl rfl rfl (fun _=>?_) (fun _=>?_))
 all_goals
  have hacc: ∀ (x:Nat) (y:Int→Option AV),x=m+m0→y=f0→AB.mp (some B) x y=AB.mp (some B) (m+m0+zcm (t.kids.take 0)) (zdY (t.kids.take 0) f0):=fun x y hx hy=>by rw[hx,hy];rfl
  refine zW t.kids.length (fun _=>True) (fun i=>⟨envOf [(1,.mp 0),(13,sT t.kids),(14,.int .i64 ((rsT t.kids).length:Nat)),(15,.int .i64 (i:Nat))],bkOf [(0,.mp (some B) (m+m0+zcm (t.kids.take i)) (zdY (t.kids.take i) f0))]⟩)
   (zfY ⟨zz rfl rfl,zz rfl rfl,zz rfl rfl,zz rfl rfl,trivial⟩ ⟨⟨⟨_,rfl,.of_eq ?_⟩,rfl⟩,trivial⟩) trivial ?_
  ·refine hacc _ _ ?_ ?_
   ·rw[hm0];simp[*]
   ·rw[hf0];simp[*]
  clear hacc
  intro i hi _
  repeat'(first|refine zi ?_|refine za ?_)
  refine zj rfl rfl rfl rfl (fun hc=>?_) (fun hc=>?_)
  ·have hlt:i <t.kids.length:=by rw[zeb]at hc;omega
   obtain⟨k,hk,hmem⟩:=zA hlt
   have hks:=zK hmem
   have rk:=zac hk
   have hct:=zi0 t.kids
   have htk:=zjt t.kids i
   have htk1:=zjt t.kids (i+1)
   have hnx:=zpG hk
   have hkc:=ih k (m+m0+zcm (t.kids.take i)) (zdY (t.kids.take i) f0) (by omega) (ztu hfm hmem) (by have:=zkd hk;omega)
   rw[←zo6 hk]at hkc
   repeat'(first|refine WL_m rfl (zcd 0 rfl rfl rfl hkc rfl rfl) ?_|refine WL_p hty rfl rfl ?_|refine zh ?_|refine zi ?_|refine za ?_|refine zf ?_|refine zxg ?_|refine zd rfl ?_|refine WL_m rfl (zm hty rfl rfl rfl (by assumption) rfl) ?_)
   refine⟨hlt,trivial,(zfY ⟨zz rfl rfl,zz rfl rfl,zz rfl rfl,⟨_,rfl,zO ?_ rfl⟩,trivial⟩ ⟨⟨⟨_,rfl,.of_eq ?_⟩,rfl⟩,trivial⟩)⟩
   ·exact congrArg (AV.int .i64) ((zy (by omega) (by omega)).trans (by omega))
   ·refine congrArg (fun x=>AB.mp (some B) x (zdY (t.kids.take (i+1)) f0)) ?_
    omega
  ·obtain rfl:i=t.kids.length:=by rw[zeb]at hc;omega
   repeat'(first|refine zh ?_|refine zi ?_|refine zbZ rfl ?_|refine zl ?_)
   refine zh1 0 rfl rfl rfl rfl rfl rfl (.of_eq ?_)
   rw[List.take_length,hce,hne, ←Nat.add_assoc]
end Go.Proofs.YtokfbblhjpfjkaaGreat
namespace Go.Proofs.YtokfbblhjpfjkaaGreat
open Go.Aw Go.RowKit
abbrev cB(b:Bl):List AV:=[.lst 6 (zY b.sorts) false,.lst 6 (rsC b.cons) false,.int .i64 b.elim]
def openT(t:Tm)(v:Int):Bool:=zcY t v 65536
def zCc:Int→List Tm→Bool
 |_,[]=>true
 |i,t::l=>openT t i&&zCc (i+1) l
theorem zff(a b:List Tm): ∀ i:Int,zCc i (a++b)=(zCc i a&&zCc (i+a.length) b):=by
 induction a with
 |nil=>intro i;simp[zCc]
 |cons x a ih=>
  intro i
  simp only[List.cons_append,zCc,ih,Bool.and_assoc,List.length_cons]
  rw[show i+1+(a.length:Int)=i+((a.length+1:Nat):Int) by omega]
theorem zei{l:List Tm}{j:Nat}{x:Tm}(h:l[j]? =some x)(i:Int):zCc i l=(zCc i (l.take j)&&(openT x (i+(j:Nat))&&zCc (i+(j:Nat)+1) (l.drop (j+1)))):=by
 have hlt:j <l.length:=(List.getElem?_eq_some_iff.1 h).1
 conv=>lhs;rw[←List.take_append_drop j l,zff,List.drop_eq_getElem_cons hlt,zCc]
 have h1:(l.take j).length=j:=by rw[List.length_take];omega
 have h2:l[j]=x:=by rw[List.getElem?_eq_getElem hlt]at h;exact Option.some.inj h
 rw[h1,h2]
theorem zd5{l:List Tm}{j:Nat}{x:Tm}(h:l[j]? =some x)(i:Int):zCc i (l.take (j+1))=(zCc i (l.take j)&&openT x (i+(j:Nat))):=by
 have hlt:j <l.length:=(List.getElem?_eq_some_iff.1 h).1
 have h1:(l.take j).length=j:=by rw[List.length_take];omega
 rw[List.take_add_one,h,Option.toList_some,zff,h1]
 simp[zCc]
def idxN(b:Bl)(s:Int):Nat:=match b.sorts[s.toNat]? with
 |some x=>x.idx.length
 |none=>0
def zbQ(b:Bl)(a:Ar)(i:Int):Bool:=if a.rc=true
 then(decide (a.typ=zT)&&(decide (a.dom.length≤12)&&(inR a.sort 0 ((b.sorts.length:Int)-1)&&decide (a.idx.length=idxN b a.sort))))&&(zCc i a.dom&&a.idx.all fun t=>openT t (i+a.dom.length))
 else openT a.typ i&&(decide ((a.dom.length:Int)+a.idx.length=0)&&decide (a.sort=0))
def zaT(b:Bl):Int→List Ar→Bool
 |_,[]=>true
 |i,t::l=>zbQ b t i&&zaT b (i+1) l
theorem zgn(b:Bl)(x y:List Ar): ∀ i:Int,zaT b i (x++y)=(zaT b i x&&zaT b (i+x.length) y):=by
 induction x with
 |nil=>intro i;simp[zaT]
 |cons z a ih=>
  intro i
  simp only[List.cons_append,zaT,ih,Bool.and_assoc,List.length_cons]
  rw[show i+1+(a.length:Int)=i+((a.length+1:Nat):Int) by omega]
theorem zdE{b:Bl}{l:List Ar}{j:Nat}{x:Ar}(h:l[j]? =some x)(i:Int):zaT b i l=(zaT b i (l.take j)&&(zbQ b x (i+(j:Nat))&&zaT b (i+(j:Nat)+1) (l.drop (j+1)))):=by
 have hlt:j <l.length:=(List.getElem?_eq_some_iff.1 h).1
 conv=>lhs;rw[←List.take_append_drop j l,zgn,List.drop_eq_getElem_cons hlt,zaT]
 have h1:(l.take j).length=j:=by rw[List.length_take];omega
 have h2:l[j]=x:=by rw[List.getElem?_eq_getElem hlt]at h;exact Option.some.inj h
 rw[h1,h2]
theorem zcW{b:Bl}{l:List Ar}{j:Nat}{x:Ar}(h:l[j]? =some x)(i:Int):zaT b i (l.take (j+1))=(zaT b i (l.take j)&&zbQ b x (i+(j:Nat))):=by
 have hlt:j <l.length:=(List.getElem?_eq_some_iff.1 h).1
 have h1:(l.take j).length=j:=by rw[List.length_take];omega
 rw[List.take_add_one,h,Option.toList_some,zgn,h1]
 simp[zaT]
def decS(b:Bl)(s:Int):Bool:=match b.sorts[s.toNat]? with
 |some x=>x.dec
 |none=>false
def zel(b:Bl)(c:Cn):Bool:=
 (inR c.sort 0 ((b.sorts.length:Int)-1)&&(decide (c.args.length≤12)&&decide (c.idx.length=idxN b c.sort)))&&
   (zaT b 0 c.args&&((c.idx.all fun t=>openT t c.args.length)&&(if decS b c.sort=true then openT c.dec c.args.length else decide (c.dec=zT))))
def zkK(b:Bl)(l:List Ar):Bool:=decide (l.length≤12)&&zaT b 0 l
def zeE(d:Bool)(t:Tm)(v:Int):Bool:=if d=true then openT t v else decide (t=zT)
def zeR(k:Int)(d:Bool)(a:Ar):Bool:=a.rc&&(decide (0 <a.dom.length)||(decide (k≤a.sort)||d))
def sortB(b:Bl)(k:Nat)(s:Sr):Bool:=zkK b s.idx&&(inR s.level 0 6&&(zeE s.dec s.decT s.idx.length&& !(s.idx.any (zeR k s.dec))))
def ze6(b:Bl):Nat→List Sr→Bool
 |_,[]=>true
 |k,s::l=>sortB b k s&&ze6 b (k+1) l
theorem zcz{b:Bl}: ∀ {l:List Sr} {k:Nat},ze6 b k l=true↔ ∀ i s,l[i]? =some s→sortB b (k+i) s=true
 |[],k=>by simp[ze6]
 |a::l,k=>by
  simp only[ze6,Bool.and_eq_true,zcz (l:=l)]
  constructor
  ·rintro ⟨h1,h2⟩ i s hs
   cases i with
   |zero=>obtain rfl:=Option.some.inj (show some a=some s from hs);exact h1
   |succ i=>have:=h2 i s (by simpa using hs);rwa[Nat.add_right_comm,Nat.add_assoc]at this
  ·intro h
   refine⟨h 0 a rfl,fun i s hs=>?_⟩
   have:=h (i+1) s (by simpa using hs)
   rwa[show k+(i+1)=k+1+i by omega]at this
def zaS(b:Bl):Bool:=inR (b.sorts.length:Nat) 1 4&&(decide (b.cons.length≤8)&&(inR b.elim 0 6&&(ze6 b 0 b.sorts&&b.cons.all (zel b))))
end Go.Proofs.YtokfbblhjpfjkaaGreat
namespace Go.Proofs.YtokfbblhjpfjkaaGreat
open Go.Aw Go.RowKit
def zBB:List (Nat×List Nat):=[(0,[]),(1,[]),(2,[1]),(3,[1,2]),(4,[0,1,2,3]),(5,[]),(6,[5]),(7,[0,1,2,3,4,5,6]),(8,[]),(9,[8]),(10,[0,1,2,3,4,5,6,7,8,9]),(11,[0,1,2,3,4,5,6,7,8,9,10])]
attribute [local irreducible] WL AC WD WE MStep OkOp
def gI(a b:Int):Int:=if b>a then b else a
def zga:Int→List Int→Int
 |a,[]=>a
 |a,b::l=>zga (gI a b) l
theorem zmK(a:Int)(l m:List Int):zga a (l++m)=zga (zga a l) m:=by
 induction l generalizing a with
 |nil=>rfl
 |cons b l ih=>exact ih (gI a b)
theorem zpt(x:Int)(l:List Int)(hl:l.length≤1048576):FC Tryz.prog 153 [.lst 1 (rsI (x::l)) false] (.int .i64 (zga x l)):=by
 refine zo hty Tryz.func153 rfl rfl rfl fun w0=>?_
 have r0:(rsI (x::l))[0]? =some [.int .i64 x]:=rfl
 have hn: ¬((rsI (x::l)).length:Int) <1:=by rw[zap,List.length_cons];omega
 repeat'(first|exact absurd (by assumption) hn|refine WL_m rfl (zm (i:=0) hty rfl rfl rfl r0 rfl) ?_|refine WL_p hty rfl rfl ?_|refine zh ?_|refine zi ?_|refine za ?_|refine zf ?_|refine zxg ?_|refine zbZ rfl ?_|refine zj rfl rfl rfl rfl (fun _=>?_) (fun _=>?_))
 refine zW l.length (fun _=>True) (fun i=>⟨envOf [(0,.lst 1 (rsI (x::l)) false),(3,.int .i64 (zga x (l.take i))),(4,.int .i64 ((i+1:Nat):Int))],bkOf []⟩)
  (zfY ⟨zz rfl rfl,zz rfl rfl,zz rfl rfl,trivial⟩ trivial) trivial ?_
 intro i hi _
 repeat'(first|refine WL_p hty rfl rfl ?_|refine zi ?_|refine za ?_)
 refine zj rfl rfl rfl rfl (fun hc=>?_) (fun hc=>?_)
 ·have hlt:i <l.length:=by rw[zap,List.length_cons]at hc;omega
  have hy:l[i]? =some l[i]:=List.getElem?_eq_getElem hlt
  have ry:(rsI (x::l))[i+1]? =some [.int .i64 l[i]]:=zd6 (l:=x::l) (i:=i+1) (by simp)
  repeat'(first|refine WL_m rfl (zm (i:=i+1) hty rfl rfl rfl ry rfl) ?_|refine WL_m rfl (zey rfl rfl rfl) ?_|refine WL_p hty rfl rfl ?_|refine zh ?_|refine zi ?_|refine za ?_|refine zf ?_|refine zxg ?_|refine zd rfl ?_)
  refine⟨hlt,trivial,(zfY ⟨zz rfl rfl,⟨_,rfl,zO ?_ rfl⟩,⟨_,rfl,zO ?_ rfl⟩,trivial⟩ trivial)⟩
  ·refine congrArg (AV.int .i64) ?_
   rw[List.take_add_one,hy,Option.toList_some,zmK]
   rfl
  ·exact congrArg (AV.int .i64) ((zy (by omega) (by omega)).trans (by omega))
 ·obtain rfl:i=l.length:=by rw[zap,List.length_cons]at hc;omega
  repeat'(first|refine WL_p hty rfl rfl ?_|refine zh ?_|refine zi ?_|refine za ?_|refine zbZ rfl ?_|refine zl ?_|refine zg ?_)
  refine zaQ rfl ?_
  rw[List.take_length]
def zpf(a:Ar):List Tm:=a.typ::(a.dom++a.idx)
def zaN(l:List Ar):List Tm:=l.flatMap zpf
theorem zm3{l:List Ar}{i:Nat}{a:Ar}(h:l[i]? =some a):zaN (l.take (i+1))=zaN (l.take i)++zpf a:=by
 unfold zaN
 rw[List.take_add_one,h,Option.toList_some,List.flatMap_append]
 simp
theorem zrp(a:Ar):sizes (zpf a)≤a.size:=by
 unfold zpf Ar.size
 simp only[sizes,zax];omega
theorem zdj(l:List Ar):sizes (zaN l)≤zaH l:=by
 induction l with
 |nil=>exact Nat.le_refl _
 |cons a l ih=>
  have:=zrp a
  unfold zaN at*
  rw[List.flatMap_cons,zax]
  simp only[zaH];omega
theorem zok(l:List Ar)(i:Nat):sizes (zaN (l.take i))+sizes (zaN (l.drop i))=sizes (zaN l):=by
 conv=>rhs;rw[←List.take_append_drop i l]
 unfold zaN
 rw[List.flatMap_append,zax]
set_option maxHeartbeats 4000000 in
theorem zhw(l:List Ar)(hl:zaH l≤1048576):FC Tryz.prog 152 [sA l] (.lst 3 (rsT (zaN l)) false):=by
 have hlen:=zae l
 refine zo hty Tryz.func152 rfl rfl rfl fun w0=>?_
 repeat'(first|refine WL_p hty rfl rfl ?_|refine zh ?_|refine zi ?_|refine za ?_|refine zf ?_)
 refine zab (zcc 103 rfl) ?_
 refine zW l.length (fun _=>True) (fun i=>⟨envOf [(3,grV 103 3 (rsT (zaN (l.take i)))),(6,sA l),(7,.int .i64 ((zX l).length:Nat)),(8,.int .i64 (i:Nat))],bkOf [(103,grB 25 3 (rsT (zaN (l.take i))))]⟩)
  (zfY ⟨⟨_,rfl,.inl ⟨.nil _ _ _,rfl⟩⟩,zz rfl rfl,zz rfl rfl,zz rfl rfl,trivial⟩ ⟨zw rfl rfl,trivial⟩) trivial ?_
 intro i hi _
 repeat'(first|refine zi ?_|refine za ?_)
 refine zj rfl rfl rfl rfl (fun hc=>?_) (fun hc=>?_)
 ·have hlt:i <l.length:=by rw[zN]at hc;omega
  obtain⟨a,ha,hmem⟩:=zA hlt
  have ra:=za6 ha
  have has:=zaM hmem
  unfold Ar.size at has
  have hd:=zM a.dom
  have hx:=zM a.idx
  have ht1:=zok l i
  have ht2:=zdj l
  have ht3:=zM (zaN (l.take i))
  repeat'(first|refine zD (id:=5) zBB rfl (by kernel_rfl) ?_|refine zu (.inl ⟨rfl,zck hty 301 rfl rfl rfl rfl rfl rfl rfl (by simp only[zeb,List.length_append,List.length_cons,List.length_nil];omega) rfl rfl rfl⟩) ?_|refine zu (.inl ⟨rfl,zck hty 302 rfl rfl rfl rfl rfl rfl rfl (by simp only[zeb,List.length_append,List.length_cons,List.length_nil];omega) rfl rfl rfl⟩) ?_|refine zu (.inl ⟨rfl,zck hty 303 rfl rfl rfl rfl rfl rfl rfl (by simp only[zeb,List.length_append,List.length_cons,List.length_nil];omega) rfl rfl rfl⟩) ?_|refine zu (.inl ⟨rfl,zI hty rfl rfl⟩) ?_|refine zS ⟨by kernel_rfl,?_⟩|refine WL_p hty rfl rfl ?_|refine zh ?_|refine zi ?_|refine za ?_|refine zf ?_|refine zxg ?_|refine zd rfl ?_|refine WL_m rfl (zm hty rfl rfl rfl (by assumption) rfl) ?_)
  have hnx:rsT (zaN (l.take i))++[cT a.typ]++rsT a.dom++rsT a.idx=rsT (zaN (l.take (i+1))):=by
   rw[zm3 ha,zas]
   simp only[zpf,rsT,zfl,zas,List.append_assoc,List.cons_append,List.nil_append]
  refine⟨hlt,trivial,(zbf [(103,303)] rfl ⟨⟨_,rfl,.inl ⟨zgT rfl ?_,zc7 rfl⟩⟩,⟨_,rfl,.inl ⟨.refl _,rfl⟩⟩,⟨_,rfl,.inl ⟨.refl _,rfl⟩⟩,⟨_,rfl,zO ?_ rfl⟩,trivial⟩ ⟨⟨⟨_,rfl,zdt ?_⟩,zbu⟩,trivial⟩)⟩
  ·exact hnx
  ·exact congrArg (AV.int .i64) ((zy (by omega) (by omega)).trans (by omega))
  ·exact hnx
 ·obtain rfl:i=l.length:=by rw[zN]at hc;omega
  repeat'(first|refine zbd (zqQ 3 103 rfl rfl) ?_|refine WL_p hty rfl rfl ?_|refine zh ?_|refine zi ?_|refine za ?_|refine zbZ rfl ?_|refine zl ?_|refine zg ?_)
  refine zdC rfl rfl ?_
  rw[List.take_length]
def zvk(l:List Int):AV:=match l with
 |[]=>.lst 1 [] true
 |x::r=>.own 3 1 (rsI (x::r)) true
def zpZ:Int→Option AV:=fun _=>none
def zuB(f:Int→Option AV)(n:Nat)(r:AV):Prop:= ∃ zs:List Int,(∀ i,i∈zs↔(f i).isSome=true)∧zs.length≤n∧r=zvk zs
set_option maxHeartbeats 4000000 in
theorem zlS(t:Tm)(hs:t.size≤1048576)(hfm:okN t=true):RC Tryz.prog 154 [aT t] (zuB (zlZ t zpZ) t.size):=by
 have hc:=zpe 1048576 (Nat.le_refl _) t 0 zpZ hs hfm (by omega)
 have hcl:=zmD t
 rw[Nat.zero_add]at hc
 refine zsl hty Tryz.func154 rfl rfl rfl fun w0=>?_
 repeat'(first|refine WL_m rfl (zj4 50 rfl rfl) ?_|refine WL_m rfl (zcd 50 rfl rfl rfl hc rfl rfl) ?_|refine WL_m rfl (zuy znR 60 rfl rfl rfl) ?_|refine zr7 znR zmL 70 rfl rfl rfl rfl (by omega) rfl (fun h0=>?_) (fun zs hne hl hmem=>?_)|refine WL_p hty rfl rfl ?_|refine zh ?_|refine zi ?_|refine za ?_|refine zg ?_)
 ·exact⟨.lst 1 [] true,⟨[],fun i=>by rw[h0 i];simp,Nat.zero_le _,rfl⟩,zdC rfl rfl rfl⟩
 ·cases zs with
  |nil=>exact absurd rfl hne
  |cons x r=>exact⟨.own 3 1 (rsI (x::r)) true,⟨x::r,hmem,Nat.le_trans hl hcl,rfl⟩,zes rfl rfl rfl⟩
end Go.Proofs.YtokfbblhjpfjkaaGreat
namespace Go.Proofs.YtokfbblhjpfjkaaGreat
open Go.Aw Go.RowKit
def zAW:List (Nat×List Nat):=[(0,[]),(1,[]),(2,[1]),(3,[1,2]),(4,[0,1,2,3]),(5,[]),(6,[5]),(7,[0,1,2,3,4,5,6]),(8,[0,1,2,3,4,5,6,7]),(9,[0,1,2,3,4,5,6,7,8])]
def zAJ:List (Nat×List Nat):=[(0,[]),(1,[]),(2,[1]),(3,[1,2]),(4,[0,1,2,3]),(5,[]),(6,[5]),(7,[0,1,2,3,4,5,6]),(8,[]),(9,[8]),(10,[0,1,2,3,4,5,6,7,8,9]),(11,[0,1,2,3,4,5,6,7,8,9,10]),(12,[0,1,2,3,4,5,6,7,8,9,10,11])]
attribute [local irreducible] WL AC WD WE MStep OkOp
mutual
def mostT:Tm→Int→Int
 | .mk k n l,a=>zbw l (if k=3 then gI a n else a)
def zbw:List Tm→Int→Int
 |[],a=>a
 |t::l,a=>zbw l (mostT t a)
end
theorem zgd(l m:List Tm): ∀ a:Int,zbw (l++m) a=zbw m (zbw l a):=by
 induction l with
 |nil=>intro a;rfl
 |cons t l ih=>intro a;exact ih (mostT t a)
theorem zqq(a b:Int):a≤gI a b∧b≤gI a b:=by unfold gI;split <;>omega
theorem gI_or(a b:Int):gI a b=a∨gI a b=b:=by unfold gI;split <;>simp
mutual
theorem zqj: ∀ (t:Tm) (a b:Int),mostT t (gI a b)=gI a (mostT t b)
 | .mk k n l,a,b=>by
   rw[mostT,mostT]
   split
   ·rw[show gI (gI a b) n=gI a (gI b n) by unfold gI;split <;>split <;>(try split) <;>omega]
    exact zgZ l a _
   ·exact zgZ l a b
theorem zgZ: ∀ (l:List Tm) (a b:Int),zbw l (gI a b)=gI a (zbw l b)
 |[],_,_=>rfl
 |t::l,a,b=>by rw[zbw,zqj t,zgZ l];rfl
end
mutual
theorem zm6: ∀ (t:Tm) (a:Int),a≤mostT t a
 | .mk k n l,a=>by
   rw[mostT]
   refine Int.le_trans ?_ (zfX l (if k=3 then gI a n else a))
   split
   ·exact(zqq a n).1
   ·exact Int.le_refl a
theorem zfX: ∀ (l:List Tm) (a:Int),a≤zbw l a
 |[],a=>Int.le_refl a
 |t::l,a=>Int.le_trans (zm6 t a) (zfX l (mostT t a))
end
def Up(f:Int→Option AV)(a:Int):Prop:=(∀ i,(f i).isSome=true→i≤a)∧(a= -1∨(f a).isSome=true)
theorem Up.put{f:Int→Option AV}{a n:Int}{v:AV}(h:Up f a):Up (zgq f n v) (gI a n):=by
 obtain⟨h1,h2⟩:=h
 obtain⟨g1,g2⟩:=zqq a n
 refine⟨fun i hi=>?_,?_⟩
 ·unfold zgq at hi
  split at hi
  ·rename_i e;rw[e];exact g2
  ·exact Int.le_trans (h1 i hi) g1
 ·unfold zgq
  rcases gI_or a n with e|e
  ·rw[e]
   rcases h2 with h2|h2
   ·exact .inl h2
   ·right;split
    ·rfl
    ·exact h2
  ·rw[e];right;rw[if_pos rfl];rfl
mutual
theorem zqP: ∀ (t:Tm) {f:Int→Option AV} {a:Int},Up f a→Up (zlZ t f) (mostT t a)
 | .mk k n l,f,a,h=>by
   rw[zlZ,mostT]
   refine znH l ?_
   split
   ·exact h.put
   ·exact h
theorem znH: ∀ (l:List Tm) {f:Int→Option AV} {a:Int},Up f a→Up (zdY l f) (zbw l a)
 |[],_,_,h=>h
 |t::l,f,a,h=>by rw[zdY,zbw];exact znH l (zqP t h)
end
theorem zqI: ∀ (l:List Int) (x:Int),(x≤zga x l∧ ∀ y,y∈l→y≤zga x l)∧(zga x l=x∨zga x l∈l)
 |[],x=>⟨⟨Int.le_refl x,fun y h=>by cases h⟩,.inl rfl⟩
 |b::l,x=>by
  obtain⟨⟨h1,h2⟩,h3⟩:=zqI l (gI x b)
  obtain⟨g1,g2⟩:=zqq x b
  rw[zga]
  refine⟨⟨Int.le_trans g1 h1,fun y hy=>?_⟩,?_⟩
  ·rcases List.mem_cons.1 hy with rfl|hy
   ·exact Int.le_trans g2 h1
   ·exact h2 y hy
  ·rcases h3 with h3|h3
   ·rcases gI_or x b with e|e
    ·left;rw[h3,e]
    ·right;rw[h3,e];exact List.mem_cons_self
   ·exact .inr (List.mem_cons_of_mem _ h3)
theorem zrf{f:Int→Option AV}{a:Int}(h:Up f a)(ha: -1≤a){x:Int}{l:List Int}(hm: ∀ i,i∈(x::l)↔i= -1∨(f i).isSome=true):zga x l=a:=by
 obtain⟨⟨h1,h2⟩,h3⟩:=zqI l x
 have hle: ∀ i,i∈(x::l)→i≤zga x l:=fun i hi=>by
  rcases List.mem_cons.1 hi with rfl|hi
  ·exact h1
  ·exact h2 i hi
 have hin:zga x l∈(x::l):=by
  rcases h3 with h3|h3
  ·rw[h3];exact List.mem_cons_self
  ·exact List.mem_cons_of_mem _ h3
 apply Int.le_antisymm
 ·rcases(hm _).1 hin with e|e
  ·rw[e];exact ha
  ·exact h.1 _ e
 ·refine hle a ((hm a).2 ?_)
  exact h.2
def zrG(s:Sr):List Tm:=s.decT::zaN s.idx
def zr0(c:Cn):List Tm:=c.dec::(c.idx++zaN c.args)
def za5(l:List Sr):List Tm:=l.flatMap zrG
def zbt(l:List Cn):List Tm:=l.flatMap zr0
def zbK(b:Bl):List Tm:=za5 b.sorts++zbt b.cons
theorem zsT(a:Sr):sizes (zaN a.idx)≤zaH a.idx:=zdj _
theorem ztb(a:Cn):sizes (zaN a.args)≤zaH a.args:=zdj _
theorem zmT{l:List Sr}{i:Nat}{a:Sr}(h:l[i]? =some a):za5 (l.take (i+1))=za5 (l.take i)++zrG a:=by
 unfold za5
 rw[List.take_add_one,h,Option.toList_some,List.flatMap_append]
 simp
theorem zn6(l:List Sr)(i:Nat):sizes (za5 (l.take i))+sizes (za5 (l.drop i))=sizes (za5 l):=by
 conv=>rhs;rw[←List.take_append_drop i l]
 unfold za5
 rw[List.flatMap_append,zax]
theorem zrj(a:Sr):sizes (zrG a)≤a.size:=by
 unfold zrG Sr.size
 have h1:=zsT a
 simp only[sizes,zax];omega
theorem znf(l:List Sr):sizes (za5 l)≤zbh l:=by
 induction l with
 |nil=>exact Nat.le_refl _
 |cons a l ih=>
  have:=zrj a
  unfold za5 at*
  rw[List.flatMap_cons,zax]
  simp only[zbh];omega
theorem zmP{l:List Cn}{i:Nat}{a:Cn}(h:l[i]? =some a):zbt (l.take (i+1))=zbt (l.take i)++zr0 a:=by
 unfold zbt
 rw[List.take_add_one,h,Option.toList_some,List.flatMap_append]
 simp
theorem znd(l:List Cn)(i:Nat):sizes (zbt (l.take i))+sizes (zbt (l.drop i))=sizes (zbt l):=by
 conv=>rhs;rw[←List.take_append_drop i l]
 unfold zbt
 rw[List.flatMap_append,zax]
theorem zsc(a:Cn):sizes (zr0 a)≤a.size:=by
 unfold zr0 Cn.size
 have h1:=ztb a
 simp only[sizes,zax];omega
theorem znE(l:List Cn):sizes (zbt l)≤zbg l:=by
 induction l with
 |nil=>exact Nat.le_refl _
 |cons a l ih=>
  have:=zsc a
  unfold zbt at*
  rw[List.flatMap_cons,zax]
  simp only[zbg];omega
def zkb(b:Bl):Int:=zbw (zbK b) (-1)
theorem zsp{f:Int→Option AV}{a:Int}(h:Up f a)(ha: -1≤a){zs:List Int}(hm: ∀ i,i∈zs↔(f i).isSome=true): ∃ x l,zs++[-1]=x::l∧zga x l=a:=by
 have key: ∀ x l,zs++[-1]=x::l→zga x l=a:=fun x l e=>zrf h ha (fun i=>by
  rw[←e,List.mem_append,hm i,List.mem_singleton]
  exact Or.comm)
 cases zs with
 |nil=>exact⟨-1,[],rfl,key _ _ rfl⟩
 |cons x l=>exact⟨x,l++[-1],rfl,key _ _ rfl⟩
theorem zt2:Up zpZ (-1):=⟨fun i h=>by(cases h),.inl rfl⟩
set_option maxHeartbeats 8000000 in
theorem zpQ(b:Bl)(hb:b.size≤1048576)(hok: ∀ t,t∈zbK b→okN t=true):FC Tryz.prog 115 [aB b] (.int .i64 (zkb b)):=by
 unfold Bl.size at hb
 have hsl:=zaa b.sorts
 have hcl:=zak b.cons
 have hs2:=znf b.sorts
 have hc2:=znE b.cons
 refine zo hty Tryz.func115 rfl rfl rfl fun w0=>?_
 repeat'(first|refine WL_p hty rfl rfl ?_|refine zh ?_|refine zi ?_|refine za ?_|refine zf ?_)
 refine zab (zcc 103 rfl) ?_
 refine zW b.sorts.length (fun _=>True) (fun i=>⟨envOf [(1,.ptr 1 0),(3,grV 103 3 (rsT (za5 (b.sorts.take i)))),(12,sS b.sorts),(13,.int .i64 ((zY b.sorts).length:Nat)),(14,.int .i64 (i:Nat))],bkOf [(1,.box (cB b)),(103,grB 25 3 (rsT (za5 (b.sorts.take i))))]⟩)
  (zfY ⟨zz rfl rfl,⟨_,rfl,.inl ⟨.nil _ _ _,rfl⟩⟩,zz rfl rfl,zz rfl rfl,zz rfl rfl,trivial⟩ ⟨zw rfl rfl,zw rfl rfl,trivial⟩) trivial ?_
 ·intro i hi _
  repeat'(first|refine zi ?_|refine za ?_)
  refine zj rfl rfl rfl rfl (fun hc=>?_) (fun hc=>?_)
  ·have hlt:i <b.sorts.length:=by rw[zQ]at hc;omega
   obtain⟨a,ha,hmem⟩:=zA hlt
   have ra:=zaK ha
   have has:=zat hmem
   unfold Sr.size at has
   have ht:=zhw a.idx (by omega)
   have hx:=zM (zaN a.idx)
   have hx2:=zdj a.idx
   have ht1:=zn6 b.sorts i
   have ht3:=zM (za5 (b.sorts.take i))
   repeat'(first|refine zD (id:=5) zAW rfl (by kernel_rfl) ?_|refine zu (.inl ⟨rfl,zar 0 rfl ht rfl rfl rfl⟩) ?_|refine zu (.inl ⟨rfl,zck hty 301 rfl rfl rfl rfl rfl rfl rfl (by simp only[zeb,List.length_append,List.length_cons,List.length_nil];omega) rfl rfl rfl⟩) ?_|refine zu (.inl ⟨rfl,zck hty 302 rfl rfl rfl rfl rfl rfl rfl (by simp only[zeb,List.length_append,List.length_cons,List.length_nil];omega) rfl rfl rfl⟩) ?_|refine zu (.inl ⟨rfl,zI hty rfl rfl⟩) ?_|refine zS ⟨by kernel_rfl,?_⟩|refine WL_p hty rfl rfl ?_|refine zh ?_|refine zi ?_|refine za ?_|refine zf ?_|refine zxg ?_|refine zd rfl ?_|refine WL_m rfl (zm hty rfl rfl rfl (by assumption) rfl) ?_)
   have hnx:rsT (za5 (b.sorts.take i))++[cT a.decT]++rsT (zaN a.idx)=rsT (za5 (b.sorts.take (i+1))):=by
    rw[zmT ha,zas]
    simp only[zrG,rsT,zfl,zas,List.append_assoc,List.cons_append,List.nil_append]
   refine⟨hlt,trivial,(zbf [(103,302)] rfl ⟨⟨_,rfl,.inl ⟨.refl _,rfl⟩⟩,⟨_,rfl,.inl ⟨zgT rfl ?_,zc7 rfl⟩⟩,⟨_,rfl,.inl ⟨.refl _,rfl⟩⟩,⟨_,rfl,.inl ⟨.refl _,rfl⟩⟩,⟨_,rfl,zO ?_ rfl⟩,trivial⟩ ⟨⟨⟨_,rfl,.refl _⟩,rfl⟩,⟨⟨_,rfl,zdt ?_⟩,zbu⟩,trivial⟩)⟩
   ·exact hnx
   ·exact congrArg (AV.int .i64) ((zy (by omega) (by omega)).trans (by omega))
   ·exact hnx
  ·obtain rfl:i=b.sorts.length:=by rw[zQ]at hc;omega
   repeat'(first|refine WL_p hty rfl rfl ?_|refine zh ?_|refine zi ?_|refine za ?_|refine zf ?_|refine zbZ rfl ?_|refine zl ?_)
   refine zW b.cons.length (fun _=>True) (fun i=>⟨envOf [(3,grV 103 3 (rsT (za5 b.sorts++zbt (b.cons.take i)))),(29,sC b.cons),(30,.int .i64 ((rsC b.cons).length:Nat)),(31,.int .i64 (i:Nat))],bkOf [(103,grB 25 3 (rsT (za5 b.sorts++zbt (b.cons.take i))))]⟩)
    (zfY ⟨⟨_,rfl,.inl ⟨.of_eq (congrArg (grV _ _) ?_),zc7 rfl⟩⟩,zz rfl rfl,zz rfl rfl,zz rfl rfl,trivial⟩ ⟨⟨⟨_,rfl,.of_eq (congrArg (grB _ _) ?_)⟩,zbu⟩,trivial⟩) trivial ?_
   ·rw[List.take_length];exact congrArg rsT (List.append_nil _).symm
   ·rw[List.take_length];exact congrArg rsT (List.append_nil _).symm
   intro i hi _
   repeat'(first|refine zi ?_|refine za ?_)
   refine zj rfl rfl rfl rfl (fun hc=>?_) (fun hc=>?_)
   ·have hlt:i <b.cons.length:=by rw[zZ]at hc;omega
    obtain⟨a,ha,hmem⟩:=zA hlt
    have ra:=zby ha
    have has:=zaB hmem
    unfold Cn.size at has
    have ht:=zhw a.args (by omega)
    have hx:=zM (zaN a.args)
    have hx2:=zdj a.args
    have hx3:=zM a.idx
    have ht0:=zM (za5 b.sorts)
    have ht1:=znd b.cons i
    have ht3:=zM (zbt (b.cons.take i))
    repeat'(first|refine zD (id:=10) zAJ rfl (by kernel_rfl) ?_|refine zu (.inl ⟨rfl,zar 0 rfl ht rfl rfl rfl⟩) ?_|refine zu (.inl ⟨rfl,zck hty 301 rfl rfl rfl rfl rfl rfl rfl (by simp only[zeb,List.length_append,List.length_cons,List.length_nil];omega) rfl rfl rfl⟩) ?_|refine zu (.inl ⟨rfl,zck hty 302 rfl rfl rfl rfl rfl rfl rfl (by simp only[zeb,List.length_append,List.length_cons,List.length_nil];omega) rfl rfl rfl⟩) ?_|refine zu (.inl ⟨rfl,zck hty 303 rfl rfl rfl rfl rfl rfl rfl (by simp only[zeb,List.length_append,List.length_cons,List.length_nil];omega) rfl rfl rfl⟩) ?_|refine zu (.inl ⟨rfl,zI hty rfl rfl⟩) ?_|refine zS ⟨by kernel_rfl,?_⟩|refine WL_p hty rfl rfl ?_|refine zh ?_|refine zi ?_|refine za ?_|refine zf ?_|refine zxg ?_|refine zd rfl ?_|refine WL_m rfl (zm hty rfl rfl rfl (by assumption) rfl) ?_)
    have hnx:rsT (za5 b.sorts++zbt (b.cons.take i))++[cT a.dec]++rsT a.idx++rsT (zaN a.args)=rsT (za5 b.sorts++zbt (b.cons.take (i+1))):=by
     rw[zmP ha,zas,zas,zas]
     simp only[zr0,rsT,zfl,zas,List.append_assoc,List.cons_append,List.nil_append]
    refine⟨hlt,trivial,(zbf [(103,303)] rfl ⟨⟨_,rfl,.inl ⟨zgT rfl ?_,zc7 rfl⟩⟩,⟨_,rfl,.inl ⟨.refl _,rfl⟩⟩,⟨_,rfl,.inl ⟨.refl _,rfl⟩⟩,⟨_,rfl,zO ?_ rfl⟩,trivial⟩ ⟨⟨⟨_,rfl,zdt ?_⟩,zbu⟩,trivial⟩)⟩
    ·exact hnx
    ·exact congrArg (AV.int .i64) ((zy (by omega) (by omega)).trans (by omega))
    ·exact hnx
   ·obtain rfl:i=b.cons.length:=by rw[zZ]at hc;omega
    have htb:za5 b.sorts++zbt (b.cons.take b.cons.length)=zbK b:=by rw[List.take_length];rfl
    have hts:sizes (zbK b)≤1048576:=by unfold zbK;rw[zax];omega
    have htl:=zM (zbK b)
    rw[htb]
    repeat'(first|refine zbd (zqQ 3 103 rfl rfl) ?_|refine WL_p hty rfl rfl ?_|refine zh ?_|refine zi ?_|refine za ?_|refine zf ?_|refine zbZ rfl ?_|refine zl ?_)
    refine zW (zbK b).length (fun _=>True) (fun i=>⟨envOf [(8,.int .i64 (zbw ((zbK b).take i) (-1))),(48,sT (zbK b)),(49,.int .i64 ((rsT (zbK b)).length:Nat)),(50,.int .i64 (i:Nat))],bkOf []⟩)
     (zfY ⟨zz rfl rfl,zz rfl rfl,zz rfl rfl,zz rfl rfl,trivial⟩ trivial) trivial ?_
    intro i hi _
    repeat'(first|refine zi ?_|refine za ?_)
    refine zj rfl rfl rfl rfl (fun hc=>?_) (fun hc=>?_)
    ·have hlt:i <(zbK b).length:=by rw[zeb]at hc;omega
     obtain⟨t,ht,hmem⟩:=zA hlt
     have rt:=zac ht
     have hts2:=zK hmem
     have hcn:=zlS t (by omega) (hok t hmem)
     have hnx:zbw ((zbK b).take (i+1)) (-1)=gI (zbw ((zbK b).take i) (-1)) (mostT t (-1)):=by
      rw[List.take_add_one,ht,Option.toList_some,zgd]
      show mostT t _=_
      rw[←zqj]
      congr 1
      have:=zfX ((zbK b).take i) (-1)
      unfold gI;rw[if_neg (by omega)]
     repeat'(first|refine zsf 70 rfl hcn rfl (fun res hR=>?_)|refine WL_p hty rfl rfl ?_|refine zh ?_|refine zi ?_|refine za ?_|refine zf ?_|refine zxg ?_|refine zd rfl ?_|refine WL_m rfl (zm hty rfl rfl rfl (by assumption) rfl) ?_)
     obtain⟨zs,hm,hzl,rfl⟩:=hR
     obtain⟨x,l,hxl,hmx⟩:=zsp (zqP t zt2) (zm6 t (-1)) hm
     have hll:l.length≤zs.length:=by have:=congrArg List.length hxl;simp at this;omega
     have hmc:=zpt x l (by omega)
     have e2:rsI (x::l)=rsI zs++[[.int .i64 (-1)]]:=by rw[←hxl];simp[rsI]
     rw[e2,hmx]at hmc
     have hlast:zbw ((zbK b).take (i+1)) (-1)=if mostT t (-1)>zbw ((zbK b).take i) (-1)then mostT t (-1)else zbw ((zbK b).take i) (-1):=hnx
     cases zs with
     |nil=>
      refine⟨(.lst 1 [] true,[]),rfl,rfl,?_⟩
      repeat'(first|refine WL_m rfl (ze7 hty 301 rfl rfl rfl rfl rfl rfl rfl (List.cons_ne_nil _ _) (Nat.le_of_ble_eq_true rfl) rfl rfl rfl) ?_|refine zbd (zaF 301 rfl) (zv 0 rfl hmc rfl rfl rfl ?_)|refine WL_m rfl (zey rfl rfl rfl) ?_|refine WL_p hty rfl rfl ?_|refine zh ?_|refine za ?_)
      refine⟨hlt,trivial,(zfY ⟨⟨_,rfl,zO ?_ rfl⟩,zz rfl rfl,zz rfl rfl,⟨_,rfl,zO ?_ rfl⟩,trivial⟩ trivial)⟩
      ·rw[hlast]
      ·exact congrArg (AV.int .i64) ((zy (by omega) (by omega)).trans (by omega))
     |cons y r=>
      refine⟨(.arr 70,[(70,.arr 3 1 (rsI (y::r)) true)]),rfl,rfl,?_⟩
      repeat'(first|refine WL_m rfl (zgH hty 301 rfl rfl rfl rfl rfl rfl rfl rfl (List.cons_ne_nil _ _) (by rw[zap];show _+1≤_;omega) rfl rfl rfl) ?_|refine zbd (zaF 301 rfl) (zv 0 rfl hmc rfl rfl rfl ?_)|refine WL_m rfl (zey rfl rfl rfl) ?_|refine WL_p hty rfl rfl ?_|refine zh ?_|refine za ?_)
      refine⟨hlt,trivial,(zfY ⟨⟨_,rfl,zO ?_ rfl⟩,zz rfl rfl,zz rfl rfl,⟨_,rfl,zO ?_ rfl⟩,trivial⟩ trivial)⟩
      ·rw[hlast]
      ·exact congrArg (AV.int .i64) ((zy (by omega) (by omega)).trans (by omega))
    ·obtain rfl:i=(zbK b).length:=by rw[zeb]at hc;omega
     repeat'(first|refine WL_p hty rfl rfl ?_|refine zh ?_|refine zi ?_|refine za ?_|refine zbZ rfl ?_|refine zl ?_|refine zg ?_)
     refine zaQ rfl ?_
     rw[List.take_length];rfl
end Go.Proofs.YtokfbblhjpfjkaaGreat
namespace Go.Proofs.YtokfbblhjpfjkaaGreat
open Go.Aw Go.RowKit
def zAX:List (Nat×List Nat):=[(0,[]),(1,[0]),(2,[0,1]),(3,[0,1,2]),(4,[]),(5,[]),(6,[5]),(7,[5,6]),(8,[4,5,6,7]),(9,[0,1,2,3,4,5,6,7,8]),(10,[]),(11,[10]),(12,[10,11]),(13,[0,1,2,3,4,5,6,7,8,9,10,11,12]),(14,[0,1,2,3,4,5,6,7,8,9,10,11,12,13])]
def zA8:List (Nat×List Nat):=[(0,[]),(1,[]),(2,[1]),(3,[1,2]),(4,[]),(5,[]),(6,[5]),(7,[5,6]),(8,[4,5,6,7]),(9,[1,2,3,4,5,6,7,8]),(10,[]),(11,[]),(12,[11]),(13,[11,12]),(14,[0,1,2,3,4,5,6,7,8,9,10,11,12,13]),(15,[0,1,2,3,4,5,6,7,8,9,10,11,12,13,14])]
def zA1:List (Nat×List Nat):=[(0,[]),(1,[]),(2,[1]),(3,[1,2]),(4,[]),(5,[]),(6,[5]),(7,[5,6]),(8,[4,5,6,7]),(9,[1,2,3,4,5,6,7,8]),(10,[]),(11,[10]),(12,[10,11]),(13,[1,2,3,4,5,6,7,8,9,10,11,12]),(14,[]),(15,[]),(16,[15]),(17,[15,16]),(18,[0,1,2,3,4,5,6,7,8,9,10,11,12,13,14,15,16,17]),(19,[0,1,2,3,4,5,6,7,8,9,10,11,12,13,14,15,16,17,18])]
def zAZ:List (Nat×List Nat):=[(0,[]),(1,[]),(2,[1]),(3,[1,2]),(4,[]),(5,[]),(6,[4,5]),(7,[]),(8,[7]),(9,[7,8]),(10,[0,1,2,3,4,5,6,7,8,9]),(11,[0,1,2,3,4,5,6,7,8,9,10])]
attribute [local irreducible] WL AC WD WE MStep OkOp
def zaX(l:List Sr):Nat:=l.countP (·.dec)
def countN(b:Bl):Nat:=2*b.sorts.length+zaX b.sorts+b.cons.length
def zb3(base ahead k many:Int):Int:=if base <0 then -1 else if 65535 <base then -1 else if k <0 then -1 else if many≤k then -1 else base+ahead+k
def zca(b:Bl)(base k:Int):Int:=zb3 base 0 k b.sorts.length
def zaL(b:Bl)(base k:Int):Int:=if k <0 then -1 else if(b.sorts.length:Int)≤k then -1 else if decS b k=true then zb3 base b.sorts.length (zaX (b.sorts.take k.toNat)) b.sorts.length else -1
def zaO(b:Bl)(base k:Int):Int:=zb3 base (b.sorts.length+zaX b.sorts) k b.cons.length
def zaz(b:Bl)(base k:Int):Int:=zb3 base (b.sorts.length+zaX b.sorts+b.cons.length) k b.sorts.length
theorem zbN(l:List Sr):zaX l≤l.length:=List.countP_le_length
theorem zdu{l:List Sr}{j:Nat}{s:Sr}(h:l[j]? =some s):zaX (l.take (j+1))=zaX (l.take j)+(if s.dec=true then 1 else 0):=by
 unfold zaX
 rw[List.take_add_one,h,Option.toList_some,List.countP_append]
 simp[List.countP_cons]
theorem ze3(base ahead k many:Int)(h1:0≤ahead∧ahead≤4194304)(h2:many≤4194304):FC Tryz.prog 191 [.int .i64 base,.int .i64 ahead,.int .i64 k,.int .i64 many] (.int .i64 (zb3 base ahead k many)):=by
 refine zo hty Tryz.func191 rfl rfl rfl fun w0=>?_
 repeat'(first|refine WL_p hty rfl rfl ?_|refine zh ?_|refine zi ?_|refine za ?_|refine zxg ?_|refine zd rfl ?_|refine zbZ rfl ?_|refine zg ?_|refine zx rfl rfl ?_|refine zot rfl rfl rfl ?_|refine zj rfl rfl rfl rfl (fun _=>?_) (fun _=>?_))
 all_goals refine zaQ rfl ?_
 all_goals unfold zb3
 all_goals first
  |(rw[if_pos (by assumption)];done)
  |(rw[if_neg (by assumption),if_pos (by assumption)];done)
  |(rw[if_neg (by assumption),if_neg (by assumption),if_pos (by assumption)];done)
  |(rw[if_neg (by assumption),if_neg (by assumption),if_neg (by assumption),if_pos (by assumption)];done)
  |(rw[if_neg (by assumption),if_neg (by assumption),if_neg (by assumption),if_neg (by assumption)]
    rw[zy (n:=base+ahead) (by omega) (by omega)]
    exact zy (by omega) (by omega))
theorem zfV(b:Bl)(k:Nat)(hb:b.size≤1048576)(hk:k≤b.sorts.length):FC Tryz.prog 155 [aB b,.int .i64 (k:Nat)] (.int .i64 (zaX (b.sorts.take k):Nat)):=by
 unfold Bl.size at hb
 have hsl:=zaa b.sorts
 have hrl:((zY b.sorts).take k).drop 0=zY (b.sorts.take k):=by rw[List.drop_zero,ziN,ziN,List.map_take]
 have htl:(b.sorts.take k).length=k:=by rw[List.length_take];omega
 refine zo hty Tryz.func155 rfl rfl rfl fun w0=>?_
 repeat'(first|refine WL_m rfl (zbO hty 0 k rfl rfl rfl ⟨_,_,rfl,rfl⟩ (Nat.zero_le _) (by rw[zQ];exact hk) rfl) ?_|refine WL_p hty rfl rfl ?_|refine zh ?_|refine zi ?_|refine za ?_|refine zf ?_)
 refine zW k (fun _=>True) (fun j=>⟨envOf [(5,.int .i64 (zaX (b.sorts.take j):Nat)),(11,.lst 6 (zY (b.sorts.take k)) false),(12,.int .i64 (k:Nat)),(13,.int .i64 (j:Nat))],bkOf []⟩)
  (zfY ⟨zz rfl rfl,⟨_,rfl,zO ?_ rfl⟩,⟨_,rfl,zO ?_ rfl⟩,zz rfl rfl,trivial⟩ trivial) trivial ?_
 ·rw[hrl];rfl
 ·rw[hrl,zQ,htl]
 intro j hj _
 repeat'(first|refine zi ?_|refine za ?_)
 refine zj rfl rfl rfl rfl (fun hc=>?_) (fun hc=>?_)
 ·have hlt:j <k:=by omega
  obtain⟨s,hs,hmem⟩:=zA (show j <b.sorts.length by omega)
  have hs':(b.sorts.take k)[j]? =some s:=by rw[List.getElem?_take,if_pos hlt];exact hs
  have rs:=zaK hs'
  have hle:=zbN (b.sorts.take j)
  have hjl:(b.sorts.take j).length=j:=by rw[List.length_take];omega
  have hts:=zdu hs
  obtain⟨sx,sl,sd,st⟩:=s
  cases sd
  ·repeat'(first|refine WL_p hty rfl rfl ?_|refine zh ?_|refine zi ?_|refine za ?_|refine zf ?_|refine zxg ?_|refine zd rfl ?_|refine zbZ rfl ?_|refine WL_m rfl (zm hty rfl rfl rfl (by assumption) rfl) ?_)
   refine⟨hlt,trivial,(zfY ⟨⟨_,rfl,zO ?_ rfl⟩,zz rfl rfl,zz rfl rfl,⟨_,rfl,zO ?_ rfl⟩,trivial⟩ trivial)⟩
   ·rw[hts];rfl
   ·exact congrArg (AV.int .i64) ((zy (by omega) (by omega)).trans (by omega))
  ·repeat'(first|refine WL_p hty rfl rfl ?_|refine zh ?_|refine zi ?_|refine za ?_|refine zf ?_|refine zxg ?_|refine zd rfl ?_|refine WL_m rfl (zm hty rfl rfl rfl (by assumption) rfl) ?_)
   refine⟨hlt,trivial,(zfY ⟨⟨_,rfl,zO ?_ rfl⟩,zz rfl rfl,zz rfl rfl,⟨_,rfl,zO ?_ rfl⟩,trivial⟩ trivial)⟩
   ·rw[hts]
    exact congrArg (AV.int .i64) ((zy (by omega) (by omega)).trans (by simp))
   ·exact congrArg (AV.int .i64) ((zy (by omega) (by omega)).trans (by omega))
 ·obtain rfl:j=k:=by omega
  repeat'(first|refine WL_p hty rfl rfl ?_|refine zh ?_|refine zi ?_|refine za ?_|refine zbZ rfl ?_|refine zl ?_|refine zg ?_)
  exact zaQ rfl rfl
theorem zgG(b:Bl)(hb:b.size≤1048576):FC Tryz.prog 116 [aB b] (.int .i64 (countN b:Nat)):=by
 have hb':=hb
 unfold Bl.size at hb'
 have hsl:=zaa b.sorts
 have hcl:=zak b.cons
 have hdl:=zbN b.sorts
 have hd:=zfV b b.sorts.length hb (Nat.le_refl _)
 rw[List.take_length, ←zQ b.sorts]at hd
 refine zo hty Tryz.func116 rfl rfl rfl fun w0=>?_
 repeat'(first|refine zD (id:=1) zAX rfl (by kernel_rfl) ?_|refine zu (.inl ⟨rfl,zar 0 rfl hd rfl rfl rfl⟩) ?_|refine zu (.inl ⟨rfl,zI hty rfl rfl⟩) ?_|refine zS ⟨by kernel_rfl,?_⟩|refine WL_p hty rfl rfl ?_|refine zh ?_|refine zi ?_|refine za ?_|refine zg ?_)
 refine zaQ rfl ?_
 rw[zQ,zZ]
 unfold countN
 rw[zy (n:=2*(b.sorts.length:Int)) (by omega) (by omega),zy (n:=2*(b.sorts.length:Int)+(zaX b.sorts:Int)) (by omega) (by omega)]
 exact(zy (by omega) (by omega)).trans (by omega)
theorem zit(b:Bl)(base k:Int)(hb:b.size≤1048576):FC Tryz.prog 141 [aB b,.int .i64 base,.int .i64 k] (.int .i64 (zca b base k)):=by
 unfold Bl.size at hb
 have hsl:=zaa b.sorts
 have hp:=ze3 base 0 k ((zY b.sorts).length:Nat) (by omega) (by rw[zQ];omega)
 refine zo hty Tryz.func141 rfl rfl rfl fun w0=>?_
 repeat'(first|refine zv 0 rfl hp rfl rfl rfl ?_|refine WL_p hty rfl rfl ?_|refine zh ?_|refine zi ?_|refine za ?_|refine zg ?_)
 refine zaQ rfl ?_
 rw[zQ];rfl
theorem zer(b:Bl)(base k:Int)(hb:b.size≤1048576):FC Tryz.prog 143 [aB b,.int .i64 base,.int .i64 k] (.int .i64 (zaO b base k)):=by
 have hb':=hb
 unfold Bl.size at hb'
 have hsl:=zaa b.sorts
 have hcl:=zak b.cons
 have hdl:=zbN b.sorts
 have hd:=zfV b b.sorts.length hb (Nat.le_refl _)
 rw[List.take_length, ←zQ b.sorts]at hd
 have w1:IntKind.i64.wrap (((zY b.sorts).length:Int)+(zaX b.sorts:Nat))=(b.sorts.length:Int)+(zaX b.sorts:Nat):=by rw[zQ];exact zy (by omega) (by omega)
 have hp:=ze3 base (IntKind.i64.wrap (((zY b.sorts).length:Int)+(zaX b.sorts:Nat))) k ((rsC b.cons).length:Nat) (by rw[w1];omega) (by rw[zZ];omega)
 refine zo hty Tryz.func143 rfl rfl rfl fun w0=>?_
 repeat'(first|refine zD (id:=1) zA8 rfl (by kernel_rfl) ?_|refine zu (.inl ⟨rfl,zar 0 rfl hd rfl rfl rfl⟩) ?_|refine zu (.inl ⟨rfl,zar 0 rfl hp rfl rfl rfl⟩) ?_|refine zu (.inl ⟨rfl,zI hty rfl rfl⟩) ?_|refine zS ⟨by kernel_rfl,?_⟩|refine WL_p hty rfl rfl ?_|refine zh ?_|refine zi ?_|refine za ?_|refine zg ?_)
 refine zaQ rfl ?_
 rw[w1,zZ];rfl
theorem zdo(b:Bl)(base k:Int)(hb:b.size≤1048576):FC Tryz.prog 144 [aB b,.int .i64 base,.int .i64 k] (.int .i64 (zaz b base k)):=by
 have hb':=hb
 unfold Bl.size at hb'
 have hsl:=zaa b.sorts
 have hcl:=zak b.cons
 have hdl:=zbN b.sorts
 have hd:=zfV b b.sorts.length hb (Nat.le_refl _)
 rw[List.take_length, ←zQ b.sorts]at hd
 have w1:IntKind.i64.wrap (((zY b.sorts).length:Int)+(zaX b.sorts:Nat))=(b.sorts.length:Int)+(zaX b.sorts:Nat):=by rw[zQ];exact zy (by omega) (by omega)
 have w2:IntKind.i64.wrap (IntKind.i64.wrap (((zY b.sorts).length:Int)+(zaX b.sorts:Nat))+((rsC b.cons).length:Nat))=(b.sorts.length:Int)+(zaX b.sorts:Nat)+b.cons.length:=by rw[w1,zZ];exact zy (by omega) (by omega)
 have hp:=ze3 base (IntKind.i64.wrap (IntKind.i64.wrap (((zY b.sorts).length:Int)+(zaX b.sorts:Nat))+((rsC b.cons).length:Nat))) k ((zY b.sorts).length:Nat) (by rw[w2];omega) (by rw[zQ];omega)
 refine zo hty Tryz.func144 rfl rfl rfl fun w0=>?_
 repeat'(first|refine zD (id:=1) zA1 rfl (by kernel_rfl) ?_|refine zu (.inl ⟨rfl,zar 0 rfl hd rfl rfl rfl⟩) ?_|refine zu (.inl ⟨rfl,zar 0 rfl hp rfl rfl rfl⟩) ?_|refine zu (.inl ⟨rfl,zI hty rfl rfl⟩) ?_|refine zS ⟨by kernel_rfl,?_⟩|refine WL_p hty rfl rfl ?_|refine zh ?_|refine zi ?_|refine za ?_|refine zg ?_)
 refine zaQ rfl ?_
 rw[w2,zQ];rfl
theorem zhq(b:Bl)(base k:Int)(hb:b.size≤1048576):FC Tryz.prog 142 [aB b,.int .i64 base,.int .i64 k] (.int .i64 (zaL b base k)):=by
 have hb':=hb
 unfold Bl.size at hb'
 have hsl:=zaa b.sorts
 by_cases h0:0≤k∧k.toNat <b.sorts.length
 ·obtain⟨s,hs,_⟩:=zA h0.2
  have rs:=zaK hs
  have hd:=zfV b k.toNat hb (by omega)
  have hkk:((k.toNat:Nat):Int)=k:=by omega
  rw[hkk]at hd
  have hdl:=zbN (b.sorts.take k.toNat)
  have htl:(b.sorts.take k.toNat).length≤b.sorts.length:=by rw[List.length_take];omega
  have hp:=ze3 base ((zY b.sorts).length:Nat) (zaX (b.sorts.take k.toNat):Nat) ((zY b.sorts).length:Nat) (by rw[zQ];omega) (by rw[zQ];omega)
  have hn1: ¬k <0:=by omega
  have hn2: ¬((zY b.sorts).length:Int)≤k:=by rw[zQ];omega
  have hde:decS b k=s.dec:=by unfold decS;rw[hs]
  have hdi:zaL b base k=if s.dec=true then zb3 base b.sorts.length (zaX (b.sorts.take k.toNat)) b.sorts.length else -1:=by
   unfold zaL;rw[if_neg hn1,if_neg (by rw[←zQ];exact hn2),hde]
  obtain⟨sx,sl,sd,st⟩:=s
  cases sd
  ·refine zo hty Tryz.func142 rfl rfl rfl fun w0=>?_
   repeat'(first|exact absurd (by assumption) hn1|exact absurd (by assumption) hn2|refine WL_m rfl (zaq hty rfl rfl rfl h0.1 rs rfl) ?_|refine WL_p hty rfl rfl ?_|refine zh ?_|refine zi ?_|refine za ?_|refine zd rfl ?_|refine zg ?_|refine zx rfl rfl ?_|refine zj rfl rfl rfl rfl (fun _=>?_) (fun _=>?_))
   exact zaQ rfl hdi.symm
  ·refine zo hty Tryz.func142 rfl rfl rfl fun w0=>?_
   repeat'(first|exact absurd (by assumption) hn1|exact absurd (by assumption) hn2|refine WL_m rfl (zaq hty rfl rfl rfl h0.1 rs rfl) ?_|refine zD (id:=3) zAZ rfl (by kernel_rfl) ?_|refine zu (.inl ⟨rfl,zar 0 rfl hd rfl rfl rfl⟩) ?_|refine zu (.inl ⟨rfl,zar 0 rfl hp rfl rfl rfl⟩) ?_|refine zu (.inl ⟨rfl,zI hty rfl rfl⟩) ?_|refine zS ⟨by kernel_rfl,?_⟩|refine WL_p hty rfl rfl ?_|refine zh ?_|refine zi ?_|refine za ?_|refine zxg ?_|refine zbZ rfl ?_|refine zg ?_|refine zx rfl rfl ?_|refine zj rfl rfl rfl rfl (fun _=>?_) (fun _=>?_))
   refine zaQ rfl ?_
   rw[hdi,zQ];rfl
 ·have hdi:zaL b base k= -1:=by
   unfold zaL
   split
   ·rfl
   ·rw[if_pos (by omega)]
  rw[hdi]
  refine zo hty Tryz.func142 rfl rfl rfl fun w0=>?_
  repeat'(first|exact absurd (by rw[zQ]at*;omega) h0|refine WL_p hty rfl rfl ?_|refine zh ?_|refine zi ?_|refine za ?_|refine zd rfl ?_|refine zg ?_|refine zx rfl rfl ?_|refine zot rfl rfl rfl ?_|refine zj rfl rfl rfl rfl (fun _=>?_) (fun _=>?_))
  all_goals exact zaQ rfl rfl
end Go.Proofs.YtokfbblhjpfjkaaGreat
namespace Go.Proofs.YtokfbblhjpfjkaaGreat
open Go.Aw Go.RowKit
attribute [local irreducible] WL AC WD WE MStep OkOp
def ofL:List (Int×Nat×(Int→Int))→Int→Int×Int
 |[],_=>(0,0)
 |(k,m,f)::l,n=>if 0≤idxF (fun i:Nat=>decide (f i=n)) (List.range m)then(k,idxF (fun i:Nat=>decide (f i=n)) (List.range m))else ofL l n
def zej(b:Bl)(base:Int):List (Int×Nat×(Int→Int)):=[(3,b.sorts.length,zca b base),(4,b.sorts.length,zaL b base),(5,b.cons.length,zaO b base),(6,b.sorts.length,zaz b base)]
def ofB(b:Bl)(base n:Int):Int×Int:=if base <0 then(0,0)else if 65535 <base then(0,0)else if n <base then(0,0)else if(countN b:Int)≤n-base then(0,0)else ofL (zej b base) n
theorem zhB{m i:Nat}(h:i <m):(List.range m)[i]? =some i:=by rw[List.getElem?_range h]
def ofG:List (Nat×Int×Nat×(Int→Int))→List (Int×Nat×(Int→Int)):=fun l=>l.map (·.2)
set_option maxHeartbeats 4000000 in
theorem zjd(b:Bl)(base n:Int)(hb:b.size≤1048576)(hn:n≤4294967296):FC Tryz.prog 199 [aB b,.int .i64 base,.int .i64 n] (.tup [.int .i64 (ofB b base n).1,.int .i64 (ofB b base n).2]):=by
 have hb':=hb
 unfold Bl.size at hb'
 have hsl:=zaa b.sorts
 have hcl:=zak b.cons
 have hdl:=zbN b.sorts
 have hcn:=zgG b hb
 have f3: ∀ k,FC Tryz.prog 141 [aB b,.int .i64 base,.int .i64 k] (.int .i64 (zca b base k)):=fun k=>zit b base k hb
 have f4: ∀ k,FC Tryz.prog 142 [aB b,.int .i64 base,.int .i64 k] (.int .i64 (zaL b base k)):=fun k=>zhq b base k hb
 have f5: ∀ k,FC Tryz.prog 143 [aB b,.int .i64 base,.int .i64 k] (.int .i64 (zaO b base k)):=fun k=>zer b base k hb
 have f6: ∀ k,FC Tryz.prog 144 [aB b,.int .i64 base,.int .i64 k] (.int .i64 (zaz b base k)):=fun k=>zdo b base k hb
 obtain⟨rows,hrows⟩: ∃ rows:List (Nat×Int×Nat×(Int→Int)),rows=[(141,3,b.sorts.length,zca b base),(142,4,b.sorts.length,zaL b base),(143,5,b.cons.length,zaO b base),(144,6,b.sorts.length,zaz b base)]:=⟨_,rfl⟩
 have hrs: ∀ r,r∈rows→r.2.2.1≤1048576∧ ∀ k,FC Tryz.prog r.1 [aB b,.int .i64 base,.int .i64 k] (.int .i64 (r.2.2.2 k)):=by
  intro r hr
  rw[hrows]at hr
  simp only[List.mem_cons,List.not_mem_nil,or_false]at hr
  rcases hr with rfl|rfl|rfl|rfl
  ·exact⟨by show b.sorts.length≤_;omega,f3⟩
  ·exact⟨by show b.sorts.length≤_;omega,f4⟩
  ·exact⟨by show b.cons.length≤_;omega,f5⟩
  ·exact⟨by show b.sorts.length≤_;omega,f6⟩
 have hof:zej b base=rows.map (·.2):=by rw[hrows];rfl
 have hlen:rows.length=4:=by rw[hrows];rfl
 obtain⟨R,hR⟩: ∃ R:List (List AV),R=rows.map (fun r=>[.int .i64 r.2.1,.int .i64 (r.2.2.1:Nat),.fn (.func r.1) [] []]):=⟨_,rfl⟩
 have hR4:R=[[.int .i64 3,.int .i64 ((zY b.sorts).length:Nat),.fn (.func 141) [] []],[.int .i64 4,.int .i64 ((zY b.sorts).length:Nat),.fn (.func 142) [] []],[.int .i64 5,.int .i64 ((rsC b.cons).length:Nat),.fn (.func 143) [] []],[.int .i64 6,.int .i64 ((zY b.sorts).length:Nat),.fn (.func 144) [] []]]:=by rw[hR,hrows,zQ,zZ];rfl
 have hRl:R.length=4:=by rw[hR,List.length_map,hlen]
 have hwn: ¬base <0→ ¬65535 <base→ ¬n <base→IntKind.i64.wrap (n-base)=n-base:=fun q1 q2 q3=>zy (by omega) (by omega)
 refine zo hty Tryz.func199 rfl rfl rfl fun w0=>?_
 repeat'(first|refine zv 0 rfl hcn rfl rfl rfl ?_|refine WL_p hty rfl rfl ?_|refine zh ?_|refine zi ?_|refine za ?_|refine zf ?_|refine zxg ?_|refine zd rfl ?_|refine zbZ rfl ?_|refine zg ?_|refine zx rfl rfl ?_|refine zot rfl rfl rfl ?_|refine zj rfl rfl rfl rfl (fun _=>?_) (fun _=>?_))
 ·rw[show ofB b base n=(0,0) by unfold ofB;rw[if_pos (by assumption)]]
  exact zH rfl rfl (.refl _)
 ·rw[show ofB b base n=(0,0) by unfold ofB;rw[if_neg (by assumption),if_pos (by assumption)]]
  exact zH rfl rfl (.refl _)
 ·rw[show ofB b base n=(0,0) by unfold ofB;rw[if_neg (by assumption),if_neg (by assumption),if_pos (by assumption)]]
  exact zH rfl rfl (.refl _)
 ·rename_i h1 h2 h3 h4
  rw[hwn h1 h2 h3]at h4
  rw[show ofB b base n=(0,0) by unfold ofB;rw[if_neg h1,if_neg h2,if_neg h3,if_pos h4]]
  exact zH rfl rfl (.refl _)
 rename_i h1 h2 h3 h4
 rw[hwn h1 h2 h3]at h4
 have hb1:ofB b base n=ofL (rows.map (·.2)) n:=by unfold ofB;rw[if_neg h1,if_neg h2,if_neg h3,if_neg h4,hof]
 rw[hb1]
 refine zW 4 (fun j=>ofL (rows.map (·.2)) n=ofL ((rows.drop j).map (·.2)) n) (fun j=>⟨envOf [(1,.int .i64 base),(2,.int .i64 n),(3,.ptr 3 0),(46,.lst 3 R true),(47,.int .i64 4),(48,.int .i64 (j:Nat))],bkOf [(3,.box (cB b))]⟩)
  (zfY ⟨zz rfl rfl,zz rfl rfl,zz rfl rfl,⟨_,rfl,zO ?_ rfl⟩,zz rfl rfl,zz rfl rfl,trivial⟩ ⟨zw rfl rfl,trivial⟩) rfl ?_
 ·rw[hR4]
 intro j hj hI
 repeat'(first|refine zi ?_|refine za ?_)
 refine zj rfl rfl rfl rfl (fun hc=>?_) (fun hc=>?_)
 ·have hlt:j <4:=by omega
  obtain⟨⟨g,kd,m,f⟩,hr,hmem⟩:=zA (show j <rows.length by omega)
  obtain⟨hm,hfc⟩:=hrs _ hmem
  simp only at hm hfc
  have rR:R[j]? =some [.int .i64 kd,.int .i64 (m:Nat),.fn (.func g) [] []]:=by rw[hR,List.getElem?_map,hr];rfl
  have hdr:rows.drop j=(g,kd,m,f)::rows.drop (j+1):=by
   rw[List.drop_eq_getElem_cons (show j <rows.length by omega)]
   rw[List.getElem?_eq_getElem (show j <rows.length by omega)]at hr
   rw[Option.some.inj hr]
  rw[hdr,List.map_cons]at hI
  simp only[ofL]at hI
  rw[hI]
  repeat'(first|refine WL_m rfl (zm (i:=j) hty rfl rfl rfl rR rfl) ?_|refine WL_p hty rfl rfl ?_|refine zh ?_|refine zi ?_|refine za ?_|refine zf ?_|refine zxg ?_|refine zd rfl ?_)
  refine zW m (fun k=>((List.range m).take k).any (fun i:Nat=>decide (f i=n))=false) (fun k=>⟨envOf [(1,.int .i64 base),(2,.int .i64 n),(3,.ptr 3 0),(9,.ptr 9 0),(46,.lst 3 R true),(47,.int .i64 4),(48,.int .i64 (j:Nat)),(53,.int .i64 (m:Nat)),(54,.int .i64 (k:Nat))],
   bkOf [(3,.box (cB b)),(9,.box [.int .i64 kd,.int .i64 (m:Nat),.fn (.func g) [] []])]⟩)
   (zfY ⟨zz rfl rfl,zz rfl rfl,zz rfl rfl,zz rfl rfl,zz rfl rfl,zz rfl rfl,zz rfl rfl,zz rfl rfl,zz rfl rfl,trivial⟩ ⟨zw rfl rfl,zw rfl rfl,trivial⟩) rfl ?_
  intro k hk hJ
  repeat'(first|refine zi ?_|refine za ?_)
  refine zj rfl rfl rfl rfl (fun hc=>?_) (fun hc=>?_)
  ·have hkm:k <m:=by omega
   repeat'(first|refine WL_m rfl (zct 0 rfl rfl rfl (hfc (k:Nat)) rfl rfl rfl) ?_|refine WL_p hty rfl rfl ?_|refine zh ?_|refine zi ?_|refine za ?_|refine zf ?_|refine zxg ?_|refine zd rfl ?_|refine zbZ rfl ?_|refine zg ?_|refine zj rfl rfl rfl rfl (fun _=>?_) (fun _=>?_))
   ·rename_i hfk
    have hid:idxF (fun i:Nat=>decide (f i=n)) (List.range m)=(k:Nat):=zdi (a:=k) (by simp[hfk]) hJ (zhB hkm)
    rw[hid,if_pos (Int.natCast_nonneg _)]
    exact zH rfl rfl (.refl _)
   ·rename_i hfk
    refine⟨hkm,?_,(zfY ⟨zz rfl rfl,zz rfl rfl,zz rfl rfl,zz rfl rfl,zz rfl rfl,zz rfl rfl,zz rfl rfl,zz rfl rfl,⟨_,rfl,zO ?_ rfl⟩,trivial⟩ ⟨zw rfl rfl,zw rfl rfl,trivial⟩)⟩
    ·rw[zaA (zhB hkm),hJ];simp[hfk]
    ·exact congrArg (AV.int .i64) ((zy (by omega) (by omega)).trans (by omega))
  ·obtain rfl:k=m:=by omega
   have hid:idxF (fun i:Nat=>decide (f i=n)) (List.range k)= -1:=zcG (by rw[List.take_of_length_le (by rw[List.length_range];exact Nat.le_refl _)]at hJ;exact hJ)
   rw[hid,if_neg (by decide)]at hI⊢
   repeat'(first|refine WL_p hty rfl rfl ?_|refine zh ?_|refine zi ?_|refine za ?_|refine zbZ rfl ?_|refine zl ?_)
   refine⟨hlt,rfl,(zfY ⟨zz rfl rfl,zz rfl rfl,zz rfl rfl,zz rfl rfl,zz rfl rfl,⟨_,rfl,zO ?_ rfl⟩,trivial⟩ ⟨zw rfl rfl,trivial⟩)⟩
   exact congrArg (AV.int .i64) ((zy (by omega) (by omega)).trans (by omega))
 ·obtain rfl:j=4:=by omega
  have hd4:rows.drop 4=[]:=List.drop_of_length_le (by omega)
  rw[hd4]at hI
  repeat'(first|refine WL_p hty rfl rfl ?_|refine zh ?_|refine zi ?_|refine za ?_|refine zbZ rfl ?_|refine zl ?_|refine zg ?_)
  rw[hI]
  exact zH rfl rfl (.refl _)
end Go.Proofs.YtokfbblhjpfjkaaGreat
namespace Go.Proofs.YtokfbblhjpfjkaaGreat
open Go.Aw Go.RowKit
def zBf:List (Nat×List Nat):=[(0,[]),(1,[]),(2,[]),(3,[2]),(4,[]),(5,[2,3,4]),(6,[1,2,3,4,5]),(7,[]),(8,[0,1,2,3,4,5,6,7]),(9,[0,1,2,3,4,5,6,7,8])]
attribute [local irreducible] WL AC WD WE MStep OkOp
theorem zuo:zdA Tryz.prog 4=true:=by kernel_rfl
attribute [local irreducible] zdA
theorem zeL(t:Tm):FC Tryz.prog 105 [aT t] (.bool (decide (t=zT))):=by
 refine zo hty Tryz.func105 rfl rfl rfl fun w0=>?_
 repeat'(first|refine WL_p hty rfl rfl ?_|refine zh ?_|refine zi ?_|refine za ?_|refine zg ?_|refine zx rfl rfl ?_|refine zq rfl rfl rfl ?_|refine zb rfl ?_|refine zj rfl rfl rfl rfl (fun _=>?_) (fun _=>?_))
 ·rename_i h1 h2 h3
  rw[zeb]at h3
  exact(decide_eq_true (Tm.ext h1 h2 (List.length_eq_zero_iff.1 (by omega)))).symm
 ·rename_i h3
  rw[zeb]at h3
  exact(decide_eq_false fun h=>h3 (by rw[h];rfl)).symm
 ·rename_i h3
  exact(decide_eq_false fun h=>h3 (by rw[h];rfl)).symm
 ·rename_i h3
  exact(decide_eq_false fun h=>h3 (by rw[h];rfl)).symm
set_option maxHeartbeats 4000000 in
theorem zoK: ∀ n,n≤1048576→ ∀ (t:Tm) (v c:Int),t.size≤n→0≤v→v+t.depth≤4194304→FC Tryz.prog 70 [aT t,.int .i64 v,.int .i64 c] (.bool (zbx t v c)):=by
 intro n
 induction n with
 |zero=>intro hn t v c ht;have:=t.size_pos;omega
 |succ n ih=>
 intro hn t v c ht hv0 hv
 have ih:=ih (by omega)
 have hs:=t.size_eq
 have hdp:=t.depth_eq
 have hlen:=zM t.kids
 have hfe:=zkm t v c
 refine zo hty Tryz.func70 rfl rfl rfl fun w0=>?_
 repeat'(first|refine WL_p hty rfl rfl ?_|refine zh ?_|refine zi ?_|refine za ?_|refine zf ?_|refine zxg ?_|refine zd rfl ?_|refine zbZ rfl ?_|refine zg ?_|refine zb rfl ?_|refine zj rfl rfl rfl rfl (fun _=>?_) (fun _=>?_))
 ·rw[hfe,if_pos (by assumption)];simp[*]
 ·rw[hfe,if_pos (by assumption)];simp[*]
 ·rw[hfe,if_neg (by assumption),if_pos (by assumption)];simp[*]
 ·rw[hfe,if_neg (by assumption),if_pos (by assumption)];simp[*]
 ·rw[hfe,if_neg (by assumption),if_neg (by assumption),if_pos (by assumption)];simp[*]
 ·rw[hfe,if_neg (by assumption),if_neg (by assumption),if_pos (by assumption)];simp[*]
 rw[if_neg (by assumption),if_neg (by assumption),if_neg (by assumption)]at hfe
 refine zW t.kids.length (fun j=>zaD t.kind 0 (t.kids.take j) v c=true) (fun j=>⟨envOf [(1,.int .i64 v),(2,.int .i64 c),(3,.ptr 3 0),(29,sT t.kids),(30,.int .i64 ((rsT t.kids).length:Nat)),(31,.int .i64 (j:Nat))],bkOf [(3,.box (cT t))]⟩) (zfY ⟨zz rfl rfl,zz rfl rfl,zz rfl rfl,zz rfl rfl,zz rfl rfl,zz rfl rfl,trivial⟩ ⟨zw rfl rfl,trivial⟩) rfl ?_
 intro j hj hI
 repeat'(first|refine zi ?_|refine za ?_)
 refine zj rfl rfl rfl rfl (fun hc=>?_) (fun hc=>?_)
 ·have hlt:j <t.kids.length:=by rw[zeb]at hc;omega
  obtain⟨k,hk,hmem⟩:=zA hlt
  have hks:=zK hmem
  have hkd:=zaU hmem
  have rk:=zac hk
  have hbi:0≤zU t.kind (j:Nat)∧zU t.kind (j:Nat)≤1:=by unfold zU;split <;>omega
  have hwr:IntKind.i64.wrap (v+zU t.kind (j:Nat))=v+zU t.kind (j:Nat):=zy (n:=v+zU t.kind (j:Nat)) (by omega) (by omega)
  have hkc:=ih k (v+zU t.kind (j:Nat)) c (by omega) (by omega) (by omega)
  rw[←hwr]at hkc
  have hsp:zaD t.kind 0 t.kids v c=(zaD t.kind 0 (t.kids.take j) v c&&(zbx k (v+zU t.kind (j:Nat)) c&&zaD t.kind (0+(j:Nat)+1) (t.kids.drop (j+1)) v c)):=by
   conv=>lhs;rw[←List.take_append_drop j t.kids,zcu,List.drop_eq_getElem_cons hlt,zaD]
   have h1:(t.kids.take j).length=j:=by rw[List.length_take];omega
   have h2:t.kids[j]=k:=by rw[List.getElem?_eq_getElem hlt]at hk;exact Option.some.inj hk
   rw[h1,h2,Int.zero_add]
  have hst:zaD t.kind 0 (t.kids.take (j+1)) v c=(zaD t.kind 0 (t.kids.take j) v c&&zbx k (v+zU t.kind (j:Nat)) c):=by
   have h1:(t.kids.take j).length=j:=by rw[List.length_take];omega
   rw[List.take_add_one,hk,Option.toList_some,zcu,h1]
   simp[zaD]
  repeat'(first|refine zD (id:=11) zBf rfl (by kernel_rfl) ?_|refine zad 0 rfl (zcB _ _) rfl rfl rfl ?_|refine zan rfl hkc rfl (fun _=>?_) (fun _=>?_)|refine zu (.inl ⟨rfl,zI hty rfl rfl⟩) ?_|refine zS ⟨by kernel_rfl,?_⟩|refine WL_p hty rfl rfl ?_|refine zh ?_|refine zi ?_|refine za ?_|refine zf ?_|refine zxg ?_|refine zd rfl ?_|refine zbZ rfl ?_|refine zg ?_|refine WL_m rfl (zm hty rfl rfl rfl (by assumption) rfl) ?_|refine zb rfl ?_)
  all_goals(rename_i hb;rw[hwr]at hb)
  ·refine⟨hlt,by rw[hst,hI,hb];rfl,(zfY ⟨zz rfl rfl,zz rfl rfl,zz rfl rfl,zz rfl rfl,zz rfl rfl,⟨_,rfl,zO ?_ rfl⟩,trivial⟩ ⟨zw rfl rfl,trivial⟩)⟩
   exact congrArg (AV.int .i64) ((zy (by omega) (by omega)).trans (by omega))
  ·rw[hfe,hsp,hb];simp
 ·obtain rfl:j=t.kids.length:=by rw[zeb]at hc;omega
  rw[List.take_length]at hI
  repeat'(first|refine WL_p hty rfl rfl ?_|refine zh ?_|refine zi ?_|refine za ?_|refine zbZ rfl ?_|refine zl ?_|refine zg ?_|refine zb rfl ?_)
  rw[hfe,hI]
mutual
theorem zgF: ∀ (t:Tm) (v v' c:Int),formedT t=true→65536≤v→65536≤v'→zbx t v c=zbx t v' c
 | .mk k n l,v,v',c,hf,h1,h2=>by
   rw[zbx,zbx]
   split
   ·rename_i hk
    have:=zdk hf hk
    simp only[Tm.num]at this
    rw[decide_eq_true (by omega),decide_eq_true (by omega)]
   ·rw[zij k 0 l v v' c (fun u hu=>zao (t:=.mk k n l) hf hu) h1 h2]
theorem zij: ∀ (k i:Int) (l:List Tm) (v v' c:Int),(∀ u,u∈l→formedT u=true)→65536≤v→65536≤v'→zaD k i l v c=zaD k i l v' c
 |_,_,[],_,_,_,_,_,_=>rfl
 |k,i,t::l,v,v',c,hf,h1,h2=>by
  have hbi:0≤zU k i:=by unfold zU;split <;>omega
  rw[zaD,zaD,zgF t (v+zU k i) (v'+zU k i) c (hf t List.mem_cons_self) (by omega) (by omega),zij k (i+1) l v v' c (fun u hu=>hf u (List.mem_cons_of_mem _ hu)) h1 h2]
end
theorem zfe(t:Tm)(v c:Int)(h:t.size≤1048576):FC Tryz.prog 41 [aT t,.int .i64 v,.int .i64 c] (.bool (zcY t v c)):=by
 have hd:=t.depth_le
 have hsc:checkT t=0→zbx t (if 1048576 <v then 1048576 else v) c=zbx t (if 65536 <v then 65536 else v) c:=by
  intro hc
  have hf:=(zeD hc)
  by_cases h1:1048576 <v
  ·rw[if_pos h1,if_pos (by omega)];exact zgF t _ _ c hf (by omega) (by omega)
  ·rw[if_neg h1]
   by_cases h2:65536 <v
   ·rw[if_pos h2];exact zgF t _ _ c hf (by omega) (by omega)
   ·rw[if_neg h2]
 refine zo hty Tryz.func41 rfl rfl rfl fun w0=>?_
 repeat'(first|refine zv 0 rfl (zb2 t h) rfl rfl rfl ?_|refine WL_m rfl (znM rfl rfl rfl) ?_|refine zL rfl (zoK 1048576 (by omega) t _ c h (by split <;>omega) (by split <;>omega)) rfl (fun _=>?_) (fun _=>?_)|refine WL_p hty rfl rfl ?_|refine zh ?_|refine zi ?_|refine za ?_|refine zg ?_|refine zx rfl rfl ?_|refine zq rfl rfl rfl ?_|refine zb rfl ?_|refine zj rfl rfl rfl rfl (fun _=>?_) (fun _=>?_))
 all_goals first
  |(simp[zcY, *];done)
  |(rename_i h1 h2 h3 h4;rw[zcY,hsc h3,decide_eq_true (by omega),decide_eq_true (by omega),decide_eq_true h3,h4];rfl)
def eqB{α:Type}(p:α→α→Bool):List α→List α→Bool
 |[],[]=>true
 |a::l,b::r=>p a b&&eqB p l r
 |_,_=>false
theorem zhk{α:Type}{p:α→α→Bool}: ∀ {l r:List α},l.length≠r.length→eqB p l r=false
 |[],[],h=>absurd rfl h
 |[],_::_,_=>rfl
 |_::_,[],_=>rfl
 |a::l,b::r,h=>by simp only[eqB,zhk (p:=p) (l:=l) (r:=r) (fun q=>h (by simp[q])),Bool.and_false]
theorem zhc{α:Type}{p:α→α→Bool}: ∀ {l r:List α},l.length=r.length→(∀ (i:Nat) (a b:α),l[i]? =some a→r[i]? =some b→p a b=true)→eqB p l r=true
 |[],[],_,_=>rfl
 |[],_::_,h,_=>by simp at h
 |_::_,[],h,_=>by simp at h
 |a::l,b::r,h,q=>by
  simp only[eqB,q 0 a b rfl rfl,Bool.true_and]
  exact zhc (by simpa using h) (fun i a b h1 h2=>q (i+1) a b (by simpa using h1) (by simpa using h2))
theorem zg9{α:Type}{p:α→α→Bool}: ∀ {l r:List α} {i:Nat} {a b:α},l[i]? =some a→r[i]? =some b→p a b=false→eqB p l r=false
 |a::l,b::r,0,x,y,h1,h2,hp=>by
  obtain rfl:a=x:=by simpa using h1
  obtain rfl:b=y:=by simpa using h2
  simp only[eqB,hp,Bool.false_and]
 |a::l,b::r,i+1,x,y,h1,h2,hp=>by
  simp only[eqB,zg9 (l:=l) (r:=r) (by simpa using h1) (by simpa using h2) hp,Bool.and_false]
 |[],_,_,_,_,h,_,_=>by simp at h
 |_::_,[],_,_,_,_,h,_=>by simp at h
theorem zi8{α:Type}[DecidableEq α]: ∀ (l r:List α),eqB (fun x y=>decide (x=y)) l r=decide (l=r)
 |[],[]=>rfl
 |[],_::_=>rfl
 |_::_,[]=>rfl
 |a::l,b::r=>by
  simp only[eqB,zi8 l r,List.cons.injEq]
  by_cases h:a=b <;>by_cases h2:l=r <;>simp[h,h2]
theorem zfa(g:Nat)(xa:List AV)(hxa:xa.all zai=true)(p:Tm→Tm→Bool)(la lb:List Tm)(hl:la.length≤1048576)(h: ∀ (i:Nat) (x y:Tm),la[i]? =some x→lb[i]? =some y→FC Tryz.prog g ([aT x,aT y]++xa) (.bool (p x y))):
 FC Tryz.prog 147 [sT la,sT lb,.fn (.func g) [] xa] (.bool (eqB p la lb)):=by
 have hcl:zaj (.fn (.func g) [] xa)=true:=by simp only[zaj,hxa];rfl
 refine zo hty Tryz.func147 rfl rfl rfl fun w0=>?_
 repeat'(first|refine WL_p hty rfl rfl ?_|refine zh ?_|refine zi ?_|refine za ?_|refine zf ?_|refine zxg ?_|refine zd rfl ?_|refine zbZ rfl ?_|refine zg ?_|refine zb rfl ?_|refine zj rfl rfl rfl rfl (fun _=>?_) (fun _=>?_))
 ·rename_i hne
  rw[zeb,zeb]at hne
  exact(zhk (fun q=>hne (by rw[q]))).symm
 rename_i hne
 rw[zeb,zeb]at hne
 have hll:la.length=lb.length:=by omega
 refine zW la.length (fun j=> ∀ (i:Nat) (a b:Tm),i <j→la[i]? =some a→lb[i]? =some b→p a b=true) (fun j=>⟨envOf [(1,sT lb),(2,.fn (.func g) [] xa),(15,sT la),(16,.int .i64 ((rsT la).length:Nat)),(17,.int .i64 (j:Nat))],bkOf []⟩)
  (zfY ⟨zz rfl rfl,⟨_,rfl,.inl ⟨.refl _,za0 hcl⟩⟩,zz rfl rfl,zz rfl rfl,zz rfl rfl,trivial⟩ trivial) (fun i a b hi=>absurd hi (Nat.not_lt_zero _)) ?_
 intro j hj hI
 repeat'(first|refine zi ?_|refine za ?_)
 refine zj rfl rfl rfl rfl (fun hc=>?_) (fun hc=>?_)
 ·have hlt:j <la.length:=by rw[zeb]at hc;omega
  obtain⟨a,ha,_⟩:=zA hlt
  obtain⟨b,hb,_⟩:=zA (hll▸hlt)
  have ra:=zac ha
  have rb:=zac hb
  repeat'(first|refine zcT rfl (by simp[hxa]) rfl (h j a b ha hb) rfl (fun _=>?_) (fun _=>?_)|refine WL_p hty rfl rfl ?_|refine zh ?_|refine zi ?_|refine za ?_|refine zf ?_|refine zxg ?_|refine zd rfl ?_|refine zbZ rfl ?_|refine zg ?_|refine WL_m rfl (zm hty rfl rfl rfl (by assumption) rfl) ?_|refine zb rfl ?_)
  ·rename_i hp
   refine⟨hlt,fun i x y hi hx hy=>?_,(zfY ⟨zz rfl rfl,⟨_,rfl,.inl ⟨.refl _,za0 hcl⟩⟩,zz rfl rfl,zz rfl rfl,⟨_,rfl,zO ?_ rfl⟩,trivial⟩ trivial)⟩
   ·rcases Nat.lt_or_ge i j with q|q
    ·exact hI i x y q hx hy
    ·obtain rfl:i=j:=by omega
     rw[ha]at hx
     rw[hb]at hy
     obtain rfl:=Option.some.inj hx
     obtain rfl:=Option.some.inj hy
     exact hp
   ·exact congrArg (AV.int .i64) ((zy (by omega) (by omega)).trans (by omega))
  ·exact(zg9 ha hb ‹_›).symm
 ·obtain rfl:j=la.length:=by rw[zeb]at hc;omega
  repeat'(first|refine WL_p hty rfl rfl ?_|refine zh ?_|refine zi ?_|refine za ?_|refine zbZ rfl ?_|refine zl ?_|refine zg ?_|refine zb rfl ?_)
  exact(zhc hll (fun i a b h1 h2=>hI i a b (List.getElem?_eq_some_iff.1 h1).1 h1 h2)).symm
theorem ziC(g:Nat)(xa:List AV)(hxa:xa.all zai=true)(p:Ar→Ar→Bool)(la lb:List Ar)(hl:la.length≤1048576)(h: ∀ (i:Nat) (x y:Ar),la[i]? =some x→lb[i]? =some y→FC Tryz.prog g ([aA x,aA y]++xa) (.bool (p x y))):
 FC Tryz.prog 145 [sA la,sA lb,.fn (.func g) [] xa] (.bool (eqB p la lb)):=by
 have hcl:zaj (.fn (.func g) [] xa)=true:=by simp only[zaj,hxa];rfl
 refine zo hty Tryz.func145 rfl rfl rfl fun w0=>?_
 repeat'(first|refine WL_p hty rfl rfl ?_|refine zh ?_|refine zi ?_|refine za ?_|refine zf ?_|refine zxg ?_|refine zd rfl ?_|refine zbZ rfl ?_|refine zg ?_|refine zb rfl ?_|refine zj rfl rfl rfl rfl (fun _=>?_) (fun _=>?_))
 ·rename_i hne
  rw[zN,zN]at hne
  exact(zhk (fun q=>hne (by rw[q]))).symm
 rename_i hne
 rw[zN,zN]at hne
 have hll:la.length=lb.length:=by omega
 refine zW la.length (fun j=> ∀ (i:Nat) (a b:Ar),i <j→la[i]? =some a→lb[i]? =some b→p a b=true) (fun j=>⟨envOf [(1,sA lb),(2,.fn (.func g) [] xa),(15,sA la),(16,.int .i64 ((zX la).length:Nat)),(17,.int .i64 (j:Nat))],bkOf []⟩)
  (zfY ⟨zz rfl rfl,⟨_,rfl,.inl ⟨.refl _,za0 hcl⟩⟩,zz rfl rfl,zz rfl rfl,zz rfl rfl,trivial⟩ trivial) (fun i a b hi=>absurd hi (Nat.not_lt_zero _)) ?_
 intro j hj hI
 repeat'(first|refine zi ?_|refine za ?_)
 refine zj rfl rfl rfl rfl (fun hc=>?_) (fun hc=>?_)
 ·have hlt:j <la.length:=by rw[zN]at hc;omega
  obtain⟨a,ha,_⟩:=zA hlt
  obtain⟨b,hb,_⟩:=zA (hll▸hlt)
  have ra:=za6 ha
  have rb:=za6 hb
  repeat'(first|refine zcT rfl (by simp[hxa]) rfl (h j a b ha hb) rfl (fun _=>?_) (fun _=>?_)|refine WL_p hty rfl rfl ?_|refine zh ?_|refine zi ?_|refine za ?_|refine zf ?_|refine zxg ?_|refine zd rfl ?_|refine zbZ rfl ?_|refine zg ?_|refine WL_m rfl (zm hty rfl rfl rfl (by assumption) rfl) ?_|refine zb rfl ?_)
  ·rename_i hp
   refine⟨hlt,fun i x y hi hx hy=>?_,(zfY ⟨zz rfl rfl,⟨_,rfl,.inl ⟨.refl _,za0 hcl⟩⟩,zz rfl rfl,zz rfl rfl,⟨_,rfl,zO ?_ rfl⟩,trivial⟩ trivial)⟩
   ·rcases Nat.lt_or_ge i j with q|q
    ·exact hI i x y q hx hy
    ·obtain rfl:i=j:=by omega
     rw[ha]at hx
     rw[hb]at hy
     obtain rfl:=Option.some.inj hx
     obtain rfl:=Option.some.inj hy
     exact hp
   ·exact congrArg (AV.int .i64) ((zy (by omega) (by omega)).trans (by omega))
  ·exact(zg9 ha hb ‹_›).symm
 ·obtain rfl:j=la.length:=by rw[zN]at hc;omega
  repeat'(first|refine WL_p hty rfl rfl ?_|refine zh ?_|refine zi ?_|refine za ?_|refine zbZ rfl ?_|refine zl ?_|refine zg ?_|refine zb rfl ?_)
  exact(zhc hll (fun i a b h1 h2=>hI i a b (List.getElem?_eq_some_iff.1 h1).1 h1 h2)).symm
theorem ziE(g:Nat)(xa:List AV)(hxa:xa.all zai=true)(p:Sr→Sr→Bool)(la lb:List Sr)(hl:la.length≤1048576)(h: ∀ (i:Nat) (x y:Sr),la[i]? =some x→lb[i]? =some y→FC Tryz.prog g ([aS x,aS y]++xa) (.bool (p x y))):
 FC Tryz.prog 107 [sS la,sS lb,.fn (.func g) [] xa] (.bool (eqB p la lb)):=by
 have hcl:zaj (.fn (.func g) [] xa)=true:=by simp only[zaj,hxa];rfl
 refine zo hty Tryz.func107 rfl rfl rfl fun w0=>?_
 repeat'(first|refine WL_p hty rfl rfl ?_|refine zh ?_|refine zi ?_|refine za ?_|refine zf ?_|refine zxg ?_|refine zd rfl ?_|refine zbZ rfl ?_|refine zg ?_|refine zb rfl ?_|refine zj rfl rfl rfl rfl (fun _=>?_) (fun _=>?_))
 ·rename_i hne
  rw[zQ,zQ]at hne
  exact(zhk (fun q=>hne (by rw[q]))).symm
 rename_i hne
 rw[zQ,zQ]at hne
 have hll:la.length=lb.length:=by omega
 refine zW la.length (fun j=> ∀ (i:Nat) (a b:Sr),i <j→la[i]? =some a→lb[i]? =some b→p a b=true) (fun j=>⟨envOf [(1,sS lb),(2,.fn (.func g) [] xa),(15,sS la),(16,.int .i64 ((zY la).length:Nat)),(17,.int .i64 (j:Nat))],bkOf []⟩)
  (zfY ⟨zz rfl rfl,⟨_,rfl,.inl ⟨.refl _,za0 hcl⟩⟩,zz rfl rfl,zz rfl rfl,zz rfl rfl,trivial⟩ trivial) (fun i a b hi=>absurd hi (Nat.not_lt_zero _)) ?_
 intro j hj hI
 repeat'(first|refine zi ?_|refine za ?_)
 refine zj rfl rfl rfl rfl (fun hc=>?_) (fun hc=>?_)
 ·have hlt:j <la.length:=by rw[zQ]at hc;omega
  obtain⟨a,ha,_⟩:=zA hlt
  obtain⟨b,hb,_⟩:=zA (hll▸hlt)
  have ra:=zaK ha
  have rb:=zaK hb
  repeat'(first|refine zcT rfl (by simp[hxa]) rfl (h j a b ha hb) rfl (fun _=>?_) (fun _=>?_)|refine WL_p hty rfl rfl ?_|refine zh ?_|refine zi ?_|refine za ?_|refine zf ?_|refine zxg ?_|refine zd rfl ?_|refine zbZ rfl ?_|refine zg ?_|refine WL_m rfl (zm hty rfl rfl rfl (by assumption) rfl) ?_|refine zb rfl ?_)
  ·rename_i hp
   refine⟨hlt,fun i x y hi hx hy=>?_,(zfY ⟨zz rfl rfl,⟨_,rfl,.inl ⟨.refl _,za0 hcl⟩⟩,zz rfl rfl,zz rfl rfl,⟨_,rfl,zO ?_ rfl⟩,trivial⟩ trivial)⟩
   ·rcases Nat.lt_or_ge i j with q|q
    ·exact hI i x y q hx hy
    ·obtain rfl:i=j:=by omega
     rw[ha]at hx
     rw[hb]at hy
     obtain rfl:=Option.some.inj hx
     obtain rfl:=Option.some.inj hy
     exact hp
   ·exact congrArg (AV.int .i64) ((zy (by omega) (by omega)).trans (by omega))
  ·exact(zg9 ha hb ‹_›).symm
 ·obtain rfl:j=la.length:=by rw[zQ]at hc;omega
  repeat'(first|refine WL_p hty rfl rfl ?_|refine zh ?_|refine zi ?_|refine za ?_|refine zbZ rfl ?_|refine zl ?_|refine zg ?_|refine zb rfl ?_)
  exact(zhc hll (fun i a b h1 h2=>hI i a b (List.getElem?_eq_some_iff.1 h1).1 h1 h2)).symm
theorem ziG(g:Nat)(xa:List AV)(hxa:xa.all zai=true)(p:Cn→Cn→Bool)(la lb:List Cn)(hl:la.length≤1048576)(h: ∀ (i:Nat) (x y:Cn),la[i]? =some x→lb[i]? =some y→FC Tryz.prog g ([aC x,aC y]++xa) (.bool (p x y))):
 FC Tryz.prog 111 [sC la,sC lb,.fn (.func g) [] xa] (.bool (eqB p la lb)):=by
 have hcl:zaj (.fn (.func g) [] xa)=true:=by simp only[zaj,hxa];rfl
 refine zo hty Tryz.func111 rfl rfl rfl fun w0=>?_
 repeat'(first|refine WL_p hty rfl rfl ?_|refine zh ?_|refine zi ?_|refine za ?_|refine zf ?_|refine zxg ?_|refine zd rfl ?_|refine zbZ rfl ?_|refine zg ?_|refine zb rfl ?_|refine zj rfl rfl rfl rfl (fun _=>?_) (fun _=>?_))
 ·rename_i hne
  rw[zZ,zZ]at hne
  exact(zhk (fun q=>hne (by rw[q]))).symm
 rename_i hne
 rw[zZ,zZ]at hne
 have hll:la.length=lb.length:=by omega
 refine zW la.length (fun j=> ∀ (i:Nat) (a b:Cn),i <j→la[i]? =some a→lb[i]? =some b→p a b=true) (fun j=>⟨envOf [(1,sC lb),(2,.fn (.func g) [] xa),(15,sC la),(16,.int .i64 ((rsC la).length:Nat)),(17,.int .i64 (j:Nat))],bkOf []⟩)
  (zfY ⟨zz rfl rfl,⟨_,rfl,.inl ⟨.refl _,za0 hcl⟩⟩,zz rfl rfl,zz rfl rfl,zz rfl rfl,trivial⟩ trivial) (fun i a b hi=>absurd hi (Nat.not_lt_zero _)) ?_
 intro j hj hI
 repeat'(first|refine zi ?_|refine za ?_)
 refine zj rfl rfl rfl rfl (fun hc=>?_) (fun hc=>?_)
 ·have hlt:j <la.length:=by rw[zZ]at hc;omega
  obtain⟨a,ha,_⟩:=zA hlt
  obtain⟨b,hb,_⟩:=zA (hll▸hlt)
  have ra:=zby ha
  have rb:=zby hb
  repeat'(first|refine zcT rfl (by simp[hxa]) rfl (h j a b ha hb) rfl (fun _=>?_) (fun _=>?_)|refine WL_p hty rfl rfl ?_|refine zh ?_|refine zi ?_|refine za ?_|refine zf ?_|refine zxg ?_|refine zd rfl ?_|refine zbZ rfl ?_|refine zg ?_|refine WL_m rfl (zm hty rfl rfl rfl (by assumption) rfl) ?_|refine zb rfl ?_)
  ·rename_i hp
   refine⟨hlt,fun i x y hi hx hy=>?_,(zfY ⟨zz rfl rfl,⟨_,rfl,.inl ⟨.refl _,za0 hcl⟩⟩,zz rfl rfl,zz rfl rfl,⟨_,rfl,zO ?_ rfl⟩,trivial⟩ trivial)⟩
   ·rcases Nat.lt_or_ge i j with q|q
    ·exact hI i x y q hx hy
    ·obtain rfl:i=j:=by omega
     rw[ha]at hx
     rw[hb]at hy
     obtain rfl:=Option.some.inj hx
     obtain rfl:=Option.some.inj hy
     exact hp
   ·exact congrArg (AV.int .i64) ((zy (by omega) (by omega)).trans (by omega))
  ·exact(zg9 ha hb ‹_›).symm
 ·obtain rfl:j=la.length:=by rw[zZ]at hc;omega
  repeat'(first|refine WL_p hty rfl rfl ?_|refine zh ?_|refine zi ?_|refine za ?_|refine zbZ rfl ?_|refine zl ?_|refine zg ?_|refine zb rfl ?_)
  exact(zhc hll (fun i a b h1 h2=>hI i a b (List.getElem?_eq_some_iff.1 h1).1 h1 h2)).symm
theorem zoG: ∀ n,n≤1048576→ ∀ a b:Tm,a.size≤n→FC Tryz.prog 110 [aT a,aT b] (.bool (decide (a=b))):=by
 intro n
 induction n with
 |zero=>intro hn a b ha;have:=a.size_pos;omega
 |succ n ih=>
 intro hn a b ha
 have ih:=ih (by omega)
 have hs:=a.size_eq
 have hlen:=zM a.kids
 have hef:=zfa 110 [] rfl (fun x y=>decide (x=y)) a.kids b.kids (by omega) (fun i x y hx hy=>ih x y (by have:=zK (List.mem_of_getElem? hx);omega))
 rw[zi8]at hef
 refine zo hty Tryz.func110 rfl rfl rfl fun w0=>?_
 repeat'(first|refine zL rfl hef rfl (fun _=>?_) (fun _=>?_)|refine WL_p hty rfl rfl ?_|refine zh ?_|refine zi ?_|refine za ?_|refine zg ?_|refine zx rfl rfl ?_|refine zq rfl rfl rfl ?_|refine zb rfl ?_|refine zj rfl rfl rfl rfl (fun _=>?_) (fun _=>?_))
 ·rename_i h1 h2 h3
  exact(decide_eq_true (Tm.ext h1 h2 (of_decide_eq_true h3))).symm
 ·rename_i h3
  exact(decide_eq_false fun q=>of_decide_eq_false h3 (by rw[q])).symm
 ·rename_i h3
  exact(decide_eq_false fun q=>h3 (by rw[q])).symm
 ·rename_i h3
  exact(decide_eq_false fun q=>h3 (by rw[q])).symm
theorem zd7(a b:Tm)(h:a.size≤1048576):FC Tryz.prog 110 [aT a,aT b] (.bool (decide (a=b))):=zoG 1048576 (by omega) a b h
theorem zh7(a b:List Tm)(h:sizes a≤1048576):FC Tryz.prog 113 [sT a,sT b] (.bool (decide (a=b))):=by
 have hlen:=zM a
 have hef:=zfa 110 [] rfl (fun x y=>decide (x=y)) a b (by omega) (fun i x y hx hy=>zd7 x y (by have:=zK (List.mem_of_getElem? hx);omega))
 rw[zi8]at hef
 refine zo hty Tryz.func113 rfl rfl rfl fun w0=>?_
 repeat'(first|refine zL rfl hef rfl (fun _=>?_) (fun _=>?_)|refine WL_p hty rfl rfl ?_|refine zh ?_|refine zi ?_|refine za ?_|refine zg ?_|refine zb rfl ?_)
 all_goals(symm;assumption)
theorem zog(a b:Ar)(ha:a.size≤1048576):FC Tryz.prog 146 [aA a,aA b] (.bool (decide (a=b))):=by
 unfold Ar.size at ha
 refine zo hty Tryz.func146 rfl rfl rfl fun w0=>?_
 repeat'(first|refine zL rfl (zh7 _ _ (by omega)) rfl (fun _=>?_) (fun _=>?_)|refine zL rfl (zd7 _ _ (by omega)) rfl (fun _=>?_) (fun _=>?_)|refine WL_p hty rfl rfl ?_|refine zh ?_|refine zi ?_|refine za ?_|refine zg ?_|refine zx rfl rfl ?_|refine zq rfl rfl rfl ?_|refine zb rfl ?_|refine zj rfl rfl rfl rfl (fun _=>?_) (fun _=>?_)|refine zpC hty zuo rfl rfl rfl (fun _=>?_) (fun _=>?_))
 all_goals(cases a;cases b;simp_all)
theorem zj1(a b:List Ar)(h:zaH a≤1048576):FC Tryz.prog 109 [sA a,sA b] (.bool (decide (a=b))):=by
 have hlen:=zae a
 have hef:=ziC 146 [] rfl (fun x y=>decide (x=y)) a b (by omega) (fun i x y hx hy=>zog x y (by have:=zaM (List.mem_of_getElem? hx);omega))
 rw[zi8]at hef
 refine zo hty Tryz.func109 rfl rfl rfl fun w0=>?_
 repeat'(first|refine zL rfl hef rfl (fun _=>?_) (fun _=>?_)|refine WL_p hty rfl rfl ?_|refine zh ?_|refine zi ?_|refine za ?_|refine zg ?_|refine zb rfl ?_)
 all_goals(symm;assumption)
theorem zoQ(a b:Sr)(ha:a.size≤1048576):FC Tryz.prog 108 [aS a,aS b] (.bool (decide (a=b))):=by
 unfold Sr.size at ha
 refine zo hty Tryz.func108 rfl rfl rfl fun w0=>?_
 repeat'(first|refine zL rfl (zj1 _ _ (by omega)) rfl (fun _=>?_) (fun _=>?_)|refine zL rfl (zd7 _ _ (by omega)) rfl (fun _=>?_) (fun _=>?_)|refine WL_p hty rfl rfl ?_|refine zh ?_|refine zi ?_|refine za ?_|refine zg ?_|refine zx rfl rfl ?_|refine zq rfl rfl rfl ?_|refine zb rfl ?_|refine zj rfl rfl rfl rfl (fun _=>?_) (fun _=>?_)|refine zpC hty zuo rfl rfl rfl (fun _=>?_) (fun _=>?_))
 all_goals(cases a;cases b;simp_all)
theorem zoI(a b:Cn)(ha:a.size≤1048576):FC Tryz.prog 112 [aC a,aC b] (.bool (decide (a=b))):=by
 unfold Cn.size at ha
 refine zo hty Tryz.func112 rfl rfl rfl fun w0=>?_
 repeat'(first|refine zL rfl (zj1 _ _ (by omega)) rfl (fun _=>?_) (fun _=>?_)|refine zL rfl (zh7 _ _ (by omega)) rfl (fun _=>?_) (fun _=>?_)|refine zL rfl (zd7 _ _ (by omega)) rfl (fun _=>?_) (fun _=>?_)|refine WL_p hty rfl rfl ?_|refine zh ?_|refine zi ?_|refine za ?_|refine zg ?_|refine zx rfl rfl ?_|refine zq rfl rfl rfl ?_|refine zb rfl ?_|refine zj rfl rfl rfl rfl (fun _=>?_) (fun _=>?_))
 all_goals(cases a;cases b;simp_all)
theorem zrO(a b:Bl)(h:a.size≤1048576):FC Tryz.prog 74 [aB a,aB b] (.bool (decide (a=b))):=by
 unfold Bl.size at h
 have hl1:=zaa a.sorts
 have hl2:=zak a.cons
 have h1:=ziE 108 [] rfl (fun x y=>decide (x=y)) a.sorts b.sorts (by omega) (fun i x y hx hy=>zoQ x y (by have:=zat (List.mem_of_getElem? hx);omega))
 have h2:=ziG 112 [] rfl (fun x y=>decide (x=y)) a.cons b.cons (by omega) (fun i x y hx hy=>zoI x y (by have:=zaB (List.mem_of_getElem? hx);omega))
 rw[zi8]at h1 h2
 refine zo hty Tryz.func74 rfl rfl rfl fun w0=>?_
 repeat'(first|refine zL rfl h1 rfl (fun _=>?_) (fun _=>?_)|refine zL rfl h2 rfl (fun _=>?_) (fun _=>?_)|refine WL_p hty rfl rfl ?_|refine zh ?_|refine zi ?_|refine za ?_|refine zg ?_|refine zx rfl rfl ?_|refine zq rfl rfl rfl ?_|refine zb rfl ?_|refine zj rfl rfl rfl rfl (fun _=>?_) (fun _=>?_))
 all_goals(cases a;cases b;simp_all)
end Go.Proofs.YtokfbblhjpfjkaaGreat
namespace Go.Proofs.YtokfbblhjpfjkaaGreat
open Go.Aw Go.RowKit
def zzx:List (Nat×List Nat):=[(0,[]),(1,[0]),(2,[0,1]),(3,[0,1,2]),(4,[0,1,2,3]),(5,[0,1,2,3,4]),(6,[0,1,2,3,4,5]),(7,[0,1,2,3,4,5,6]),(8,[0,1,2,3,4,5,6,7]),(9,[0,1,2,3,4,5,6,7,8]),(10,[0,1,2,3,4,5,6,7,8,9]),(11,[0,1,2,3,4,5,6,7,8,9,10]),(12,[0,1,2,3,4,5,6,7,8,9,10,11]),(13,[0,1,2,3,4,5,6,7,8,9,10,11,12]),(14,[0,1,2,3,4,5,6,7,8,9,10,11,12,13]),(15,[0,1,2,3,4,5,6,7,8,9,10,11,12,13,14]),(16,[0,1,2,3,4,5,6,7,8,9,10,11,12,13,14,15]),(17,[0,1,2,3,4,5,6,7,8,9,10,11,12,13,14,15,16]),(18,[0,1,2,3,4,5,6,7,8,9,10,11,12,13,14,15]),(19,[0,1,2,3,4,5,6,7,8,9,10,11,12,13,14,15,18]),(20,[0,1,2,3,4,5,6,7,8,9,10,11,12,13,14,15,18,19]),(21,[0,1,2,3,4,5,6,7,8,9,10,11,12,13,14,15,16,17,18,19,20]),(22,[0,1,2,3,4,5,6,7,8,9,10,11,12,13,14,15,16,17,18,19,20,21]),(23,[0,1,2,3,4,5,6,7,8,9,10,11,12,13,14,15,16,17,18,19,20,21,22]),(24,[0,1,2,3,4,5,6,7,8,9,10,11,12,13,14,15,16,17,18,19,20,21,22,23]),(25,[0,1,2,3,4,5,6,7,8,9,10,11,12,13,14,15,16,17,18,19,20,21,22,23,24]),(26,[0,1,2,3,4,5,6,7,8,9,10,11,12,13,14,15,16,17,18,19,20,21,22,23,24,25]),(27,[0,1,2,3,4,5,6,7,8,9,10,11,12,13,14,15,16,17,18,19,20,21,22,23]),(28,[0,1,2,3,4,5,6,7,8,9,10,11,12,13,14,15,16,17,18,19,20,21,22,23,27]),(29,[0,1,2,3,4,5,6,7,8,9,10,11,12,13,14,15,16,17,18,19,20,21,22,23]),(30,[0,1,2,3,4,5,6,7,8,9,10,11,12,13,14,15,16,17,18,19,20,21,22,23,29]),(31,[0,1,2,3,4,5,6,7,8,9,10,11,12,13,14,15,16,17,18,19,20,21,22,23,27,28,29,30]),(32,[0,1,2,3,4,5,6,7,8,9,10,11,12,13,14,15,16,17,18,19,20,21,22,23,27,28,29,30,31]),(33,[0,1,2,3,4,5,6,7,8,9,10,11,12,13,14,15,16,17,18,19,20,21,22,23,27,28,29,30,31,32]),(34,[0,1,2,3,4,5,6,7,8,9,10,11,12,13,14,15,16,17,18,19,20,21,22,23,27,28,29,30,31,32,33]),(35,[0,1,2,3,4,5,6,7,8,9,10,11,12,13,14,15,16,17,18,19,20,21,22,23,24,25,26,27,28,29,30,31,32,33,34]),(36,[0,1,2,3,4,5,6,7,8,9,10,11,12,13,14,15,16,17,18,19,20,21,22,23,24,25,26,27,28,29,30,31,32,33,34,35])]
attribute [local irreducible] WL AC WD WE MStep OkOp
theorem zhj(t:Tm)(v:Int)(h:t.size≤1048576):FC Tryz.prog 243 [aT t,.int .i64 v] (.bool (openT t v)):=by
 refine zo hty Tryz.func243 rfl rfl rfl fun w0=>?_
 repeat'(first|refine zv 0 rfl (zfe t v 65536 h) rfl rfl rfl ?_|refine WL_p hty rfl rfl ?_|refine zh ?_|refine zi ?_|refine za ?_|refine zg ?_|refine zb rfl ?_)
 all_goals rfl
theorem zoF(t:Tm)(v:Int)(h:t.size≤1048576):FC Tryz.prog 245 [aT t,.eptr [.int .i64 v] 0] (.bool (!openT t v)):=by
 refine zo hty Tryz.func245 rfl rfl rfl fun w0=>?_
 repeat'(first|refine zL rfl (zhj t v h) rfl (fun _=>?_) (fun _=>?_)|refine WL_p hty rfl rfl ?_|refine zh ?_|refine zi ?_|refine za ?_|refine zg ?_|refine zb rfl ?_)
 all_goals simp[*]
theorem zmM{α:Type}(p:α→Bool)(l:List α):(!(l.any fun t=> !p t))=l.all p:=by rw[zbD]
theorem zlo(l:List Tm)(v:Int)(h:sizes l≤1048576):FC Tryz.prog 230 [sT l,.int .i64 v] (.bool (l.all fun t=>openT t v)):=by
 have hcf:=zcI 245 [.eptr [.int .i64 v] 0] rfl (fun t=> !openT t v) l (by omega) (fun t ht=>zoF t v (by have:=zK ht;omega))
 refine zo hty Tryz.func230 rfl rfl rfl fun w0=>?_
 repeat'(first|refine zbd (z6 3 rfl rfl) ?_|refine WL_m rfl (zbo rfl rfl rfl) ?_|refine zL rfl hcf rfl (fun _=>?_) (fun _=>?_)|refine WL_p hty rfl rfl ?_|refine zh ?_|refine zi ?_|refine za ?_|refine zg ?_|refine zb rfl ?_)
 all_goals(rename_i hq;rw[←zmM,hq])
theorem zih(n:Int):FC Tryz.prog 192 [.int .i64 n] (.bool (inR n 0 6)):=by
 refine zo hty Tryz.func192 rfl rfl rfl fun w0=>?_
 repeat'(first|refine WL_p hty rfl rfl ?_|refine zh ?_|refine zi ?_|refine za ?_|refine zg ?_|refine zx rfl rfl ?_|refine zq rfl rfl rfl ?_|refine zb rfl ?_|refine zj rfl rfl rfl rfl (fun _=>?_) (fun _=>?_))
 all_goals(simp_all [inR] <;>(try intro) <;>omega)
theorem zik(d:Bool)(t:Tm)(v:Int)(h:t.size≤1048576):FC Tryz.prog 226 [.bool d,aT t,.int .i64 v] (.bool (zeE d t v)):=by
 cases d
 ·refine zo hty Tryz.func226 rfl rfl rfl fun w0=>?_
  repeat'(first|refine zv 0 rfl (zeL t) rfl rfl rfl ?_|refine WL_p hty rfl rfl ?_|refine zh ?_|refine zi ?_|refine za ?_|refine zd rfl ?_|refine zg ?_|refine zb rfl ?_)
  all_goals rfl
 ·refine zo hty Tryz.func226 rfl rfl rfl fun w0=>?_
  repeat'(first|refine zv 0 rfl (zhj t v h) rfl rfl rfl ?_|refine WL_p hty rfl rfl ?_|refine zh ?_|refine zi ?_|refine za ?_|refine zxg ?_|refine zbZ rfl ?_|refine zg ?_|refine zb rfl ?_)
  all_goals rfl
set_option maxRecDepth 4000 in
set_option maxHeartbeats 4000000 in
theorem zsb(b:Bl)(a:Ar)(i:Int)(hb:b.size≤1048576)(ha:a.size≤1048576)(hi0:0≤i)(hi1:i≤1048576):FC Tryz.prog 242 [aB b,aA a,.int .i64 i] (.bool (zbQ b a i)):=by
 have hsl:=zaa b.sorts
 unfold Bl.size at hb
 unfold Ar.size at ha
 have hd:=zM a.dom
 have hx:=zM a.idx
 obtain⟨rc,tt,dd,so,ix⟩:=a
 simp only at ha hd hx
 have hwd:IntKind.i64.wrap (((rsT dd).length:Int)+(rsT ix).length)=(dd.length:Int)+ix.length:=by
  rw[zeb,zeb];exact zy (n:=(dd.length:Int)+ix.length) (by omega) (by omega)
 refine zo hty Tryz.func242 rfl rfl rfl fun w0=>?_
 cases rc
 ·repeat'(first|refine zL rfl (zhj tt i (by omega)) rfl (fun _=>?_) (fun _=>?_)|refine WL_p hty rfl rfl ?_|refine zh ?_|refine zi ?_|refine za ?_|refine zd rfl ?_|refine zg ?_|refine zx rfl rfl ?_|refine zq rfl rfl rfl ?_|refine zb rfl ?_|refine zj rfl rfl rfl rfl (fun _=>?_) (fun _=>?_))
  all_goals show _=(openT tt i&&(decide ((dd.length:Int)+ix.length=0)&&decide (so=0)))
  ·rename_i h1 h2 h3
   rw[h1,decide_eq_true (hwd.symm.trans h2),decide_eq_true h3];rfl
  ·rename_i h1 h2 h3
   rw[h1,decide_eq_true (hwd.symm.trans h2),decide_eq_false h3];rfl
  ·rename_i h1 h2
   rw[h1,decide_eq_false (fun q=>h2 (hwd.trans q))];rfl
  ·rename_i h1
   rw[h1];rfl
 have hae:zbQ b ⟨true,tt,dd,so,ix⟩ i=((decide (tt=zT)&&(decide (dd.length≤12)&&(inR so 0 ((b.sorts.length:Int)-1)&&decide (ix.length=idxN b so))))&&(zCc i dd&&ix.all fun t=>openT t (i+dd.length))):=rfl
 by_cases hin:inR so 0 ((b.sorts.length:Int)-1)=true
 ·have hin2:=hin
  simp only[inR,Bool.and_eq_true,decide_eq_true_eq]at hin2
  obtain⟨s,hs,hsm⟩:=zA (show so.toNat <b.sorts.length by omega)
  have rs:=zaK hs
  have hix:idxN b so=s.idx.length:=by unfold idxN;rw[hs]
  have hn1: ¬so <0:=by omega
  have hn2: ¬((zY b.sorts).length:Int)≤so:=by rw[zQ];omega
  repeat'(first|exact absurd (by assumption) hn1|exact absurd (by assumption) hn2|refine zD (id:=3) zzx rfl (by kernel_rfl) ?_|refine zan rfl (zeL _) rfl (fun _=>?_) (fun _=>?_)|refine zbc rfl (zaq hty rfl rfl rfl hin2.1 rs rfl) ?_|refine zu (.inl ⟨rfl,zI hty rfl rfl⟩) ?_|refine zaG rfl rfl ?_|refine zav rfl rfl rfl ?_|refine zS ⟨by kernel_rfl,?_⟩|refine WL_p hty rfl rfl ?_|refine zh ?_|refine zi ?_|refine za ?_|refine zf ?_|refine zxg ?_|refine zd rfl ?_|refine zbZ rfl ?_|refine zg ?_|refine zb rfl ?_|refine zaC rfl rfl rfl rfl (fun _=>?_) (fun _=>?_))
  ·rename_i h1 h2
   have h2:12 <((rsT dd).length:Int):=h2
   rw[zeb]at h2
   rw[hae,show decide (dd.length≤12)=false from decide_eq_false (by omega)];simp
  ·rename_i h1 h2 h3
   have h3:((rsT ix).length:Int)≠(zX s.idx).length:=by assumption
   rw[zeb,zN]at h3
   rw[hae,hix,show decide (ix.length=s.idx.length)=false from decide_eq_false (by omega)];simp
  ·have h1:decide (tt=zT)=true:=by assumption
   have h2: ¬12 <((rsT dd).length:Int):=by assumption
   have h3: ¬((rsT ix).length:Int)≠(zX s.idx).length:=by assumption
   rw[zeb]at h2
   rw[zeb,zN]at h3
   rw[h1,hin,show decide (dd.length≤12)=true from decide_eq_true (by omega),hix,show decide (ix.length=s.idx.length)=true from decide_eq_true (by omega)]at hae
   simp only[Bool.true_and]at hae
   clear h1 rs
   rw[hae]
   refine zW dd.length (fun j=>zCc i (dd.take j)=true) (fun j=>⟨envOf [(2,.int .i64 i),(3,.ptr 3 0),(4,.ptr 4 0),(69,sT dd),(70,.int .i64 ((rsT dd).length:Nat)),(71,.int .i64 (j:Nat))],
    bkOf [(3,.box (cB b)),(4,.box (cA ⟨true,tt,dd,so,ix⟩))]⟩) (zfY ⟨zz rfl rfl,zz rfl rfl,zz rfl rfl,zz rfl rfl,zz rfl rfl,zz rfl rfl,trivial⟩ ⟨zw rfl rfl,zw rfl rfl,trivial⟩) rfl ?_
   intro j hj hI
   repeat'(first|refine zi ?_|refine za ?_)
   refine zj rfl rfl rfl rfl (fun hc=>?_) (fun hc=>?_)
   ·have hc:(j:Int) <((rsT dd).length:Int):=hc
    have hlt:j <dd.length:=by rw[zeb]at hc;omega
    obtain⟨k,hk,hmem⟩:=zA hlt
    have hks:=zK hmem
    have rk:=zac hk
    have hwr:IntKind.i64.wrap (i+(j:Nat))=i+(j:Nat):=zy (n:=i+(j:Nat)) (by omega) (by omega)
    have hop:=zhj k (IntKind.i64.wrap (i+(j:Nat))) (by omega)
    repeat'(first|refine zL rfl hop rfl (fun _=>?_) (fun _=>?_)|refine WL_p hty rfl rfl ?_|refine zh ?_|refine zi ?_|refine za ?_|refine zf ?_|refine zxg ?_|refine zd rfl ?_|refine zbZ rfl ?_|refine zg ?_|refine WL_m rfl (zm hty rfl rfl rfl (by assumption) rfl) ?_|refine zb rfl ?_)
    all_goals(rename_i hb;rw[hwr]at hb)
    ·refine⟨hlt,by rw[zd5 hk,hI,hb];rfl,(zfY ⟨zz rfl rfl,zz rfl rfl,zz rfl rfl,zz rfl rfl,zz rfl rfl,⟨_,rfl,zO ?_ rfl⟩,trivial⟩ ⟨zw rfl rfl,zw rfl rfl,trivial⟩)⟩
     exact congrArg (AV.int .i64) ((zy (by omega) (by omega)).trans (by omega))
    ·rw[zei hk,hb];simp
   ·have hc: ¬(j:Int) <((rsT dd).length:Int):=hc
    obtain rfl:j=dd.length:=by rw[zeb]at hc;omega
    rw[List.take_length]at hI
    rw[hI,Bool.true_and]
    have hwr:IntKind.i64.wrap (i+((rsT dd).length:Nat))=i+(dd.length:Nat):=by rw[zeb];exact zy (n:=i+(dd.length:Nat)) (by omega) (by omega)
    have hal:=zlo ix (IntKind.i64.wrap (i+((rsT dd).length:Nat))) (by omega)
    repeat'(first|refine zv 0 rfl hal rfl rfl rfl ?_|refine WL_p hty rfl rfl ?_|refine zh ?_|refine zi ?_|refine za ?_|refine zbZ rfl ?_|refine zl ?_|refine zg ?_|refine zb rfl ?_)
    rw[hwr]
  ·rename_i h1
   have h1:decide (tt=zT)=false:=h1
   rw[hae,h1];rfl
 ·repeat'(first|refine zD (id:=3) zzx rfl (by kernel_rfl) ?_|refine zan rfl (zeL _) rfl (fun _=>?_) (fun _=>?_)|refine zu (.inl ⟨rfl,zI hty rfl rfl⟩) ?_|refine zaG rfl rfl ?_|refine zav rfl rfl rfl ?_|refine zS ⟨by kernel_rfl,?_⟩|refine WL_p hty rfl rfl ?_|refine zh ?_|refine zi ?_|refine za ?_|refine zxg ?_|refine zd rfl ?_|refine zbZ rfl ?_|refine zg ?_|refine zb rfl ?_|refine zaC rfl rfl rfl rfl (fun _=>?_) (fun _=>?_))
  all_goals first
   |(rw[hae,Bool.eq_false_iff.2 hin];simp;done)
   |(dsimp only at*;exfalso;apply hin;simp only[inR,Bool.and_eq_true,decide_eq_true_eq];rw[zQ]at*;omega)
theorem zk1(b:Bl)(l:List Ar)(hb:b.size≤1048576)(hl:zaH l≤1048576):FC Tryz.prog 225 [aB b,sA l] (.bool (zkK b l)):=by
 have hlen:=zae l
 refine zo hty Tryz.func225 rfl rfl rfl fun w0=>?_
 repeat'(first|refine WL_p hty rfl rfl ?_|refine zh ?_|refine zi ?_|refine za ?_|refine zf ?_|refine zxg ?_|refine zd rfl ?_|refine zbZ rfl ?_|refine zg ?_|refine zb rfl ?_|refine zj rfl rfl rfl rfl (fun _=>?_) (fun _=>?_))
 ·rename_i h
  rw[zN]at h
  rw[zkK,decide_eq_false (by omega)];rfl
 rename_i h
 rw[zN]at h
 have hr:zkK b l=zaT b 0 l:=by rw[zkK,decide_eq_true (by omega)];rfl
 refine zW l.length (fun j=>zaT b 0 (l.take j)=true) (fun j=>⟨envOf [(2,.ptr 2 0),(10,sA l),(11,.int .i64 ((zX l).length:Nat)),(12,.int .i64 (j:Nat))],bkOf [(2,.box (cB b))]⟩) (zfY ⟨zz rfl rfl,zz rfl rfl,zz rfl rfl,zz rfl rfl,trivial⟩ ⟨zw rfl rfl,trivial⟩) rfl ?_
 intro j hj hI
 repeat'(first|refine zi ?_|refine za ?_)
 refine zj rfl rfl rfl rfl (fun hc=>?_) (fun hc=>?_)
 ·have hlt:j <l.length:=by rw[zN]at hc;omega
  obtain⟨k,hk,hmem⟩:=zA hlt
  have hks:=zaM hmem
  have rk:=za6 hk
  repeat'(first|refine zL rfl (zsb b k (j:Nat) hb (by omega) (by omega) (by omega)) rfl (fun _=>?_) (fun _=>?_)|refine WL_p hty rfl rfl ?_|refine zh ?_|refine zi ?_|refine za ?_|refine zf ?_|refine zxg ?_|refine zd rfl ?_|refine zbZ rfl ?_|refine zg ?_|refine WL_m rfl (zm hty rfl rfl rfl (by assumption) rfl) ?_|refine zb rfl ?_)
  ·refine⟨hlt,by rw[zcW hk,hI,Int.zero_add];simp[*],(zfY ⟨zz rfl rfl,zz rfl rfl,zz rfl rfl,⟨_,rfl,zO ?_ rfl⟩,trivial⟩ ⟨zw rfl rfl,trivial⟩)⟩
   exact congrArg (AV.int .i64) ((zy (by omega) (by omega)).trans (by omega))
  ·rw[hr,zdE hk,Int.zero_add];simp[*]
 ·obtain rfl:j=l.length:=by rw[zN]at hc;omega
  rw[List.take_length]at hI
  repeat'(first|refine WL_p hty rfl rfl ?_|refine zh ?_|refine zi ?_|refine za ?_|refine zbZ rfl ?_|refine zl ?_|refine zg ?_|refine zb rfl ?_)
  rw[hr,hI]
end Go.Proofs.YtokfbblhjpfjkaaGreat
namespace Go.Proofs.YtokfbblhjpfjkaaGreat
open Go.Aw Go.RowKit
attribute [local irreducible] WL AC WD WE MStep OkOp
theorem ziB(g:Nat)(xa:List AV)(hxa:xa.all zai=true)(p:Ar→Bool)(l:List Ar)(hl:l.length≤1048576)(h: ∀ t,t∈l→FC Tryz.prog g ([aA t]++xa) (.bool (p t))):
 FC Tryz.prog 244 [sA l,.fn (.func g) [] xa] (.int .i64 (idxF p l)):=by
 refine zo hty Tryz.func244 rfl rfl rfl fun w0=>?_
 repeat'(first|refine WL_p hty rfl rfl ?_|refine zh ?_|refine zi ?_|refine za ?_|refine zf ?_)
 refine zW l.length (fun j=>(l.take j).any p=false) (fun j=>⟨envOf [(0,sA l),(1,.fn (.func g) [] xa),(7,.int .i64 ((zX l).length:Nat)),(8,.int .i64 (j:Nat))],bkOf []⟩)
  (zfY ⟨zz rfl rfl,⟨_,rfl,.inr ⟨_,?_,.refl _⟩⟩,zz rfl rfl,zz rfl rfl,trivial⟩ trivial) rfl ?_
 ·simp only[argV,argS,zaj,hxa];rfl
 intro j hj hI
 repeat'(first|refine zi ?_|refine za ?_)
 refine zj rfl rfl rfl rfl (fun hc=>?_) (fun hc=>?_)
 ·have hlt:j <l.length:=by rw[zN]at hc;omega
  obtain⟨k,hk,hmem⟩:=zA hlt
  have rk:=za6 hk
  repeat'(first|refine zcT rfl (by simp[hxa]) rfl (h k hmem) rfl (fun _=>?_) (fun _=>?_)|refine WL_p hty rfl rfl ?_|refine zh ?_|refine zi ?_|refine za ?_|refine zf ?_|refine zxg ?_|refine zd rfl ?_|refine zbZ rfl ?_|refine zg ?_|refine WL_m rfl (zm hty rfl rfl rfl (by assumption) rfl) ?_)
  ·exact zaQ rfl (zdi ‹_› hI hk).symm
  ·refine⟨hlt,?_,(zfY ⟨zz rfl rfl,⟨_,rfl,.inr ⟨_,?_,.refl _⟩⟩,zz rfl rfl,⟨_,rfl,zO ?_ rfl⟩,trivial⟩ trivial)⟩
   ·rw[zaA hk,hI];simp[*]
   ·simp only[argV,argS,zaj,hxa];rfl
   ·exact congrArg (AV.int .i64) ((zy (by omega) (by omega)).trans (by omega))
 ·obtain rfl:j=l.length:=by rw[zN]at hc;omega
  rw[List.take_length]at hI
  repeat'(first|refine WL_p hty rfl rfl ?_|refine zh ?_|refine zi ?_|refine za ?_|refine zbZ rfl ?_|refine zl ?_|refine zg ?_)
  exact zaQ rfl (zcG hI).symm
theorem zgA(g:Nat)(xa:List AV)(hxa:xa.all zai=true)(p:Ar→Bool)(l:List Ar)(hl:l.length≤1048576)(h: ∀ t,t∈l→FC Tryz.prog g ([aA t]++xa) (.bool (p t))):
 FC Tryz.prog 227 [sA l,.fn (.func g) [] xa] (.bool (l.any p)):=by
 have hq:=ziB g xa hxa p l hl h
 refine zo hty Tryz.func227 rfl rfl rfl fun w0=>?_
 have he: ∀ s:AS,evO s (.tmp 5)=some (sA l)→evO s (.tmp 6)=some (.fn (.func g) [] xa)→za4 s [.tmp 5,.tmp 6]=some [sA l,.fn (.func g) [] xa]:=by
  intro s h1 h2
  simp only[za4,h1,h2,argV,argS,zaj,zai,hxa];rfl
 repeat'(first|refine zv 0 (he _ rfl rfl) hq rfl rfl rfl ?_|refine WL_p hty rfl rfl ?_|refine zh ?_|refine zi ?_|refine za ?_|refine zg ?_|refine zb rfl ?_|refine zj rfl rfl rfl rfl (fun _=>?_) (fun _=>?_))
 ·exact(zc6.1 ‹_›).symm
 ·rename_i h
  rw[eq_comm,Bool.eq_false_iff]
  exact fun q=>h (zc6.2 q)
theorem ziI(g:Nat)(xa:List AV)(hxa:xa.all zai=true)(p:Cn→Bool)(l:List Cn)(hl:l.length≤1048576)(h: ∀ t,t∈l→FC Tryz.prog g ([aC t]++xa) (.bool (p t))):
 FC Tryz.prog 229 [sC l,.fn (.func g) [] xa] (.int .i64 (idxF p l)):=by
 refine zo hty Tryz.func229 rfl rfl rfl fun w0=>?_
 repeat'(first|refine WL_p hty rfl rfl ?_|refine zh ?_|refine zi ?_|refine za ?_|refine zf ?_)
 refine zW l.length (fun j=>(l.take j).any p=false) (fun j=>⟨envOf [(0,sC l),(1,.fn (.func g) [] xa),(7,.int .i64 ((rsC l).length:Nat)),(8,.int .i64 (j:Nat))],bkOf []⟩)
  (zfY ⟨zz rfl rfl,⟨_,rfl,.inr ⟨_,?_,.refl _⟩⟩,zz rfl rfl,zz rfl rfl,trivial⟩ trivial) rfl ?_
 ·simp only[argV,argS,zaj,hxa];rfl
 intro j hj hI
 repeat'(first|refine zi ?_|refine za ?_)
 refine zj rfl rfl rfl rfl (fun hc=>?_) (fun hc=>?_)
 ·have hlt:j <l.length:=by rw[zZ]at hc;omega
  obtain⟨k,hk,hmem⟩:=zA hlt
  have rk:=zby hk
  repeat'(first|refine zcT rfl (by simp[hxa]) rfl (h k hmem) rfl (fun _=>?_) (fun _=>?_)|refine WL_p hty rfl rfl ?_|refine zh ?_|refine zi ?_|refine za ?_|refine zf ?_|refine zxg ?_|refine zd rfl ?_|refine zbZ rfl ?_|refine zg ?_|refine WL_m rfl (zm hty rfl rfl rfl (by assumption) rfl) ?_)
  ·exact zaQ rfl (zdi ‹_› hI hk).symm
  ·refine⟨hlt,?_,(zfY ⟨zz rfl rfl,⟨_,rfl,.inr ⟨_,?_,.refl _⟩⟩,zz rfl rfl,⟨_,rfl,zO ?_ rfl⟩,trivial⟩ trivial)⟩
   ·rw[zaA hk,hI];simp[*]
   ·simp only[argV,argS,zaj,hxa];rfl
   ·exact congrArg (AV.int .i64) ((zy (by omega) (by omega)).trans (by omega))
 ·obtain rfl:j=l.length:=by rw[zZ]at hc;omega
  rw[List.take_length]at hI
  repeat'(first|refine WL_p hty rfl rfl ?_|refine zh ?_|refine zi ?_|refine za ?_|refine zbZ rfl ?_|refine zl ?_|refine zg ?_)
  exact zaQ rfl (zcG hI).symm
theorem zgC(g:Nat)(xa:List AV)(hxa:xa.all zai=true)(p:Cn→Bool)(l:List Cn)(hl:l.length≤1048576)(h: ∀ t,t∈l→FC Tryz.prog g ([aC t]++xa) (.bool (p t))):
 FC Tryz.prog 194 [sC l,.fn (.func g) [] xa] (.bool (l.any p)):=by
 have hq:=ziI g xa hxa p l hl h
 refine zo hty Tryz.func194 rfl rfl rfl fun w0=>?_
 have he: ∀ s:AS,evO s (.tmp 5)=some (sC l)→evO s (.tmp 6)=some (.fn (.func g) [] xa)→za4 s [.tmp 5,.tmp 6]=some [sC l,.fn (.func g) [] xa]:=by
  intro s h1 h2
  simp only[za4,h1,h2,argV,argS,zaj,zai,hxa];rfl
 repeat'(first|refine zv 0 (he _ rfl rfl) hq rfl rfl rfl ?_|refine WL_p hty rfl rfl ?_|refine zh ?_|refine zi ?_|refine za ?_|refine zg ?_|refine zb rfl ?_|refine zj rfl rfl rfl rfl (fun _=>?_) (fun _=>?_))
 ·exact(zc6.1 ‹_›).symm
 ·rename_i h
  rw[eq_comm,Bool.eq_false_iff]
  exact fun q=>h (zc6.2 q)
end Go.Proofs.YtokfbblhjpfjkaaGreat
namespace Go.Proofs.YtokfbblhjpfjkaaGreat
open Go.Aw Go.RowKit
attribute [local irreducible] WL AC WD WE MStep OkOp
theorem znt(a:Ar)(k:Int)(s:Sr):FC Tryz.prog 228 [aA a,.eptr [.int .i64 k] 0,.eptr (cS s) 0] (.bool (zeR k s.dec a)):=by
 obtain⟨rc,tt,dd,so,ix⟩:=a
 obtain⟨sx,sl,sd,st⟩:=s
 cases rc <;>cases sd
 all_goals
  refine zo hty Tryz.func228 rfl rfl rfl fun w0=>?_
  repeat'(first|refine WL_p hty rfl rfl ?_|refine zh ?_|refine zi ?_|refine za ?_|refine zg ?_|refine zx rfl rfl ?_|refine zq rfl rfl rfl ?_|refine zot rfl rfl rfl ?_|refine zr rfl rfl rfl ?_|refine zb rfl ?_|refine zj rfl rfl rfl rfl (fun _=>?_) (fun _=>?_))
  all_goals first
   |rfl
   |((try dsimp only at*);(try simp only[zeb]at*);simp only[zeR];simp only[Bool.true_and,Bool.or_false,Bool.or_true,Bool.false_eq_true,eq_comm (a:=true),eq_comm (a:=false),Bool.or_eq_true,Bool.or_eq_false_iff,decide_eq_true_eq,decide_eq_false_iff_not] <;>omega)
theorem zpP(b:Bl)(k:Nat)(s:Sr)(hs:b.sorts[k]? =some s)(hb:b.size≤1048576):FC Tryz.prog 193 [aB b,.int .i64 (k:Nat)] (.bool (sortB b k s)):=by
 have hb':=hb
 unfold Bl.size at hb'
 have hss:=zat (List.mem_of_getElem? hs)
 unfold Sr.size at hss
 have rs:=zaK hs
 have hlx:=zae s.idx
 have hcf:=zgA 228 [.eptr [.int .i64 (k:Nat)] 0,.eptr (cS s) 0] rfl (zeR (k:Nat) s.dec) s.idx (by omega) (fun a _=>znt a (k:Nat) s)
 have hrow:=zk1 b s.idx hb (by omega)
 have hlv:=zih s.level
 have hmb:=zik s.dec s.decT ((zX s.idx).length:Nat) (by omega)
 have hlen:((zX s.idx).length:Int)=(s.idx.length:Int):=by rw[zN]
 refine zo hty Tryz.func193 rfl rfl rfl fun w0=>?_
 repeat'(first|refine WL_m rfl (zm (i:=k) hty rfl rfl rfl rs rfl) ?_|refine zL rfl hrow rfl (fun _=>?_) (fun _=>?_)|refine zL rfl hlv rfl (fun _=>?_) (fun _=>?_)|refine zL rfl hmb rfl (fun _=>?_) (fun _=>?_)|(refine zbd (z6 3 rfl rfl) ?_;refine zbd (z6 5 rfl rfl) ?_;refine WL_m rfl (zbo rfl rfl rfl) ?_)|refine zL rfl hcf rfl (fun _=>?_) (fun _=>?_)|refine WL_p hty rfl rfl ?_|refine zh ?_|refine zi ?_|refine za ?_|refine zxg ?_|refine zd rfl ?_|refine zbZ rfl ?_|refine zg ?_|refine zx rfl rfl ?_|refine zot rfl rfl rfl ?_|refine zb rfl ?_)
 all_goals(rw[hlen]at*;simp only[sortB];simp[*])
theorem zr3(b:Bl)(c:Cn)(hb:b.size≤1048576)(ha:c.size≤1048576):FC Tryz.prog 196 [aB b,aC c] (.bool (zel b c)):=by
 have hb':=hb
 unfold Bl.size at hb'
 unfold Cn.size at ha
 have hsl:=zaa b.sorts
 have hla:=zae c.args
 have hrow:=zk1 b c.args hb (by omega)
 have hal:=zlo c.idx ((zX c.args).length:Nat) (by omega)
 by_cases hin:inR c.sort 0 ((b.sorts.length:Int)-1)=true
 ·have hin2:=hin
  simp only[inR,Bool.and_eq_true,decide_eq_true_eq]at hin2
  obtain⟨s,hs,hsm⟩:=zA (show c.sort.toNat <b.sorts.length by omega)
  have rs:=zaK hs
  have hix:idxN b c.sort=s.idx.length:=by unfold idxN;rw[hs]
  have hde:decS b c.sort=s.dec:=by unfold decS;rw[hs]
  have hmb:=zik s.dec c.dec ((zX c.args).length:Nat) (by omega)
  have hn1: ¬c.sort <0:=by omega
  have hn2: ¬((zY b.sorts).length:Int)≤c.sort:=by rw[zQ];omega
  have hcb:zel b c=(zkK b c.args&&(decide (c.idx.length=s.idx.length)&&((c.idx.all fun t=>openT t c.args.length)&&zeE s.dec c.dec c.args.length))):=by
   simp only[zel,hin,hix,hde,zkK,zeE,Bool.true_and]
   cases decide (c.args.length≤12) <;>cases decide (c.idx.length=s.idx.length) <;>simp
  refine zo hty Tryz.func196 rfl rfl rfl fun w0=>?_
  repeat'(first|exact absurd (by assumption) hn1|exact absurd (by assumption) hn2|refine WL_m rfl (zaq hty rfl rfl rfl hin2.1 rs rfl) ?_|refine zL rfl hrow rfl (fun _=>?_) (fun _=>?_)|refine zL rfl hal rfl (fun _=>?_) (fun _=>?_)|refine zL rfl hmb rfl (fun _=>?_) (fun _=>?_)|refine WL_p hty rfl rfl ?_|refine zh ?_|refine zi ?_|refine za ?_|refine zxg ?_|refine zd rfl ?_|refine zbZ rfl ?_|refine zg ?_|refine zx rfl rfl ?_|refine zq rfl rfl rfl ?_|refine zb rfl ?_|refine zj rfl rfl rfl rfl (fun _=>?_) (fun _=>?_))
  all_goals simp only[zN,zeb]at*
  all_goals first
   |(have e:decide (c.idx.length=s.idx.length)=true:=decide_eq_true (by omega)
     rw[hcb,e]
     simp only[*,Bool.true_and,Bool.and_true,Bool.and_false,Bool.false_and]
     done)
   |(have e:decide (c.idx.length=s.idx.length)=false:=decide_eq_false (by omega)
     rw[hcb,e]
     simp only[Bool.false_and,Bool.and_false]
     done)
   |(rw[hcb]
     simp only[*,Bool.false_and]
     done)
 ·have hcb:zel b c=false:=by simp only[zel,Bool.eq_false_iff.2 hin,Bool.false_and]
  rw[hcb]
  refine zo hty Tryz.func196 rfl rfl rfl fun w0=>?_
  repeat'(first|(refine absurd ?_ hin;simp only[inR,Bool.and_eq_true,decide_eq_true_eq];simp only[zQ]at*;omega)|refine WL_p hty rfl rfl ?_|refine zh ?_|refine zi ?_|refine za ?_|refine zd rfl ?_|refine zg ?_|refine zx rfl rfl ?_|refine zot rfl rfl rfl ?_|refine zb rfl ?_|refine zj rfl rfl rfl rfl (fun _=>?_) (fun _=>?_))
  all_goals rfl
theorem zlI(b:Bl)(c:Cn)(hb:b.size≤1048576)(ha:c.size≤1048576):FC Tryz.prog 195 [aC c,.eptr (cB b) 0] (.bool (!zel b c)):=by
 refine zo hty Tryz.func195 rfl rfl rfl fun w0=>?_
 repeat'(first|refine zL rfl (zr3 b c hb ha) rfl (fun _=>?_) (fun _=>?_)|refine WL_p hty rfl rfl ?_|refine zh ?_|refine zi ?_|refine za ?_|refine zg ?_|refine zb rfl ?_)
 all_goals simp[*]
theorem znr(b:Bl)(hb:b.size≤1048576):FC Tryz.prog 148 [aB b] (.int .i64 (if zaS b=true then 0 else 12)):=by
 have hb':=hb
 unfold Bl.size at hb'
 have hsl:=zaa b.sorts
 have hcl:=zak b.cons
 have hlv:=zih b.elim
 have hcf:=zgC 195 [.eptr (cB b) 0] rfl (fun c=> !zel b c) b.cons (by omega) (fun c hc=>zlI b c hb (by have:=zaB hc;omega))
 refine zo hty Tryz.func148 rfl rfl rfl fun w0=>?_
 repeat'(first|refine zL rfl hlv rfl (fun _=>?_) (fun _=>?_)|refine WL_p hty rfl rfl ?_|refine zh ?_|refine zi ?_|refine za ?_|refine zf ?_|refine zxg ?_|refine zd rfl ?_|refine zbZ rfl ?_|refine zg ?_|refine zx rfl rfl ?_|refine zot rfl rfl rfl ?_|refine zj rfl rfl rfl rfl (fun _=>?_) (fun _=>?_))
 ·rename_i h
  rw[zQ]at h
  refine zaQ rfl ?_
  rw[if_neg]
  simp only[zaS,inR,Bool.and_eq_true,decide_eq_true_eq];omega
 ·rename_i h1 h
  rw[zQ]at h
  refine zaQ rfl ?_
  rw[if_neg]
  simp only[zaS,inR,Bool.and_eq_true,decide_eq_true_eq];omega
 ·rename_i h1 h2 h
  rw[zZ]at h
  refine zaQ rfl ?_
  rw[if_neg]
  simp only[zaS,inR,Bool.and_eq_true,decide_eq_true_eq];omega
 ·rename_i h1 h2 h3 h4
  rw[zQ]at h1 h2
  rw[zZ]at h3
  have hsh:zaS b=(ze6 b 0 b.sorts&&b.cons.all (zel b)):=by
   have e1:inR (b.sorts.length:Nat) 1 4=true:=by simp only[inR,Bool.and_eq_true,decide_eq_true_eq];omega
   have e2:decide (b.cons.length≤8)=true:=decide_eq_true (by omega)
   simp only[zaS,e1,e2,h4,Bool.true_and]
  refine zW b.sorts.length (fun j=> ∀ (i:Nat) (s:Sr),i <j→b.sorts[i]? =some s→sortB b i s=true) (fun j=>⟨envOf [(1,.ptr 1 0),(28,.int .i64 ((zY b.sorts).length:Nat)),(29,.int .i64 (j:Nat))],bkOf [(1,.box (cB b))]⟩)
   (zfY ⟨zz rfl rfl,zz rfl rfl,zz rfl rfl,trivial⟩ ⟨zw rfl rfl,trivial⟩) (fun i s hi=>absurd hi (Nat.not_lt_zero _)) ?_
  intro j hj hI
  repeat'(first|refine zi ?_|refine za ?_)
  refine zj rfl rfl rfl rfl (fun hc=>?_) (fun hc=>?_)
  ·have hlt:j <b.sorts.length:=by rw[zQ]at hc;omega
   obtain⟨s,hs,hmem⟩:=zA hlt
   repeat'(first|refine zL rfl (zpP b j s hs hb) rfl (fun _=>?_) (fun _=>?_)|refine WL_p hty rfl rfl ?_|refine zh ?_|refine zi ?_|refine za ?_|refine zf ?_|refine zxg ?_|refine zd rfl ?_|refine zbZ rfl ?_|refine zg ?_)
   ·rename_i hq
    refine⟨hlt,fun i u hi hu=>?_,(zfY ⟨zz rfl rfl,zz rfl rfl,⟨_,rfl,zO ?_ rfl⟩,trivial⟩ ⟨zw rfl rfl,trivial⟩)⟩
    ·rcases Nat.lt_or_ge i j with q|q
     ·exact hI i u q hu
     ·obtain rfl:i=j:=by omega
      rw[hs]at hu
      obtain rfl:=Option.some.inj hu
      exact hq
    ·exact congrArg (AV.int .i64) ((zy (by omega) (by omega)).trans (by omega))
   ·rename_i hq
    refine zaQ rfl ?_
    rw[if_neg]
    intro hsb
    rw[hsh,Bool.and_eq_true]at hsb
    have:=zcz.1 hsb.1 j s hs
    rw[Nat.zero_add,hq]at this
    cases this
  ·obtain rfl:j=b.sorts.length:=by rw[zQ]at hc;omega
   have hss:ze6 b 0 b.sorts=true:=zcz.2 fun i s hs=>by rw[Nat.zero_add];exact hI i s (List.getElem?_eq_some_iff.1 hs).1 hs
   rw[hsh,hss,Bool.true_and]
   repeat'(first|(refine zbd (z6 1 rfl rfl) ?_;refine WL_m rfl (zbo rfl rfl rfl) ?_)|refine zL rfl hcf rfl (fun _=>?_) (fun _=>?_)|refine WL_p hty rfl rfl ?_|refine zh ?_|refine zi ?_|refine za ?_|refine zxg ?_|refine zd rfl ?_|refine zbZ rfl ?_|refine zl ?_|refine zg ?_)
   ·rename_i hq
    refine zaQ rfl ?_
    rw[if_neg]
    rw[zbD,hq];decide
   ·rename_i hq
    refine zaQ rfl ?_
    rw[if_pos]
    rw[zbD,hq];rfl
 ·rename_i h1 h2 h3 h
  refine zaQ rfl ?_
  rw[if_neg]
  simp only[zaS,h,Bool.false_and,Bool.and_false];decide
end Go.Proofs.YtokfbblhjpfjkaaGreat
namespace Go.Proofs.YtokfbblhjpfjkaaGreat
open Go.Aw Go.RowKit
attribute [local irreducible] WL AC WD WE MStep OkOp
theorem zfj(t:Tm)(h:t.size≤1048576):FC Tryz.prog 16 [.lst 3 [cT t] true] (.bool (zbk [t])):=by
 have h1:=zde [t] (by simp only[sizes];omega)
 simp only[sT,rs1]at h1
 exact h1.args (.cons (.full _ _ _) .nil)
theorem zfQ(l:List Ar)(h:zaH l≤1048576):FC Tryz.prog 71 [sA l] (.bool (zhS l)):=by
 have hlen:=zae l
 refine zo hty Tryz.func71 rfl rfl rfl fun w0=>?_
 repeat'(first|refine WL_p hty rfl rfl ?_|refine zh ?_|refine zi ?_|refine za ?_|refine zf ?_|refine zxg ?_|refine zd rfl ?_|refine zbZ rfl ?_|refine zg ?_|refine zb rfl ?_|refine zj rfl rfl rfl rfl (fun _=>?_) (fun _=>?_))
 ·rename_i hc
  rw[zN]at hc
  have:20 <l.length:=by omega
  simp[zhS,this]
 rename_i hc
 rw[zN]at hc
 have h20: ¬20 <l.length:=by omega
 refine zW l.length (fun j=>(l.take j).any (fun a=>zbk [a.typ]||zbk a.dom||zbk a.idx)=false) (fun j=>⟨envOf [(0,sA l),(3,.int .i64 (j:Nat))],bkOf []⟩)
  (zfY ⟨zz rfl rfl,zz rfl rfl,trivial⟩ trivial) rfl ?_
 intro j hj hI
 repeat'(first|refine WL_p hty rfl rfl ?_|refine zi ?_|refine za ?_)
 refine zj rfl rfl rfl rfl (fun hc=>?_) (fun hc=>?_)
 ·have hlt:j <l.length:=by rw[zN]at hc;omega
  obtain⟨k,hk,hmem⟩:=zA hlt
  have hks:=zaM hmem
  unfold Ar.size at hks
  have rk:=za6 hk
  have hat:=zaA (p:=fun a:Ar=>zbk [a.typ]||zbk a.dom||zbk a.idx) hk
  repeat'(first|refine zL rfl (zfj _ (by omega)) rfl (fun _=>?_) (fun _=>?_)|refine zL rfl (zde _ (by omega)) rfl (fun _=>?_) (fun _=>?_)|refine WL_p hty rfl rfl ?_|refine zh ?_|refine zi ?_|refine za ?_|refine zf ?_|refine zxg ?_|refine zd rfl ?_|refine zbZ rfl ?_|refine zg ?_|refine zx rfl rfl ?_|refine zot rfl rfl rfl ?_|refine WL_m rfl (zm hty rfl rfl rfl (by assumption) rfl) ?_|refine zb rfl ?_)
  all_goals first
   |have h3:l.any (fun a=>zbk [a.typ]||zbk a.dom||zbk a.idx)=true:=zbI hk (by simp_all;done)
    simp[zhS,h3]
    done
   |refine⟨hlt,?_,(zfY ⟨zz rfl rfl,⟨_,rfl,zO ?_ rfl⟩,trivial⟩ trivial)⟩
    ·simp_all
    ·exact congrArg (AV.int .i64) ((zy (by omega) (by omega)).trans (by omega))
 ·obtain rfl:j=l.length:=by rw[zN]at hc;omega
  rw[List.take_length]at hI
  repeat'(first|refine WL_p hty rfl rfl ?_|refine zh ?_|refine zi ?_|refine za ?_|refine zbZ rfl ?_|refine zl ?_|refine zg ?_|refine zb rfl ?_)
  simp only[zhS,hI];simp[h20]
theorem znz(b:Bl)(h:b.size≤1048576):FC Tryz.prog 42 [aB b] (.bool (zgw b)):=by
 unfold Bl.size at h
 have hl1:=zaa b.sorts
 have hl2:=zak b.cons
 refine zo hty Tryz.func42 rfl rfl rfl fun w0=>?_
 repeat'(first|refine WL_p hty rfl rfl ?_|refine zh ?_|refine zi ?_|refine za ?_|refine zf ?_|refine zxg ?_|refine zd rfl ?_|refine zbZ rfl ?_|refine zg ?_|refine zx rfl rfl ?_|refine zot rfl rfl rfl ?_|refine zb rfl ?_|refine zj rfl rfl rfl rfl (fun _=>?_) (fun _=>?_))
 ·rename_i hc
  rw[zQ]at hc
  have:10 <b.sorts.length:=by omega
  simp[zgw,this]
 ·rename_i hc
  rw[zZ]at hc
  have:20 <b.cons.length:=by omega
  simp[zgw,this]
 rename_i hc1 hc2
 rw[zQ]at hc1
 rw[zZ]at hc2
 have h10: ¬10 <b.sorts.length:=by omega
 have h20: ¬20 <b.cons.length:=by omega
 refine zW b.sorts.length (fun j=>(b.sorts.take j).any zhT=false) (fun j=>⟨envOf [(1,.ptr 1 0),(3,.int .i64 (j:Nat))],bkOf [(1,.box [.lst 6 (zY b.sorts) false,.lst 6 (rsC b.cons) false,.int .i64 b.elim])]⟩)
  (zfY ⟨zz rfl rfl,zz rfl rfl,trivial⟩ ⟨zw rfl rfl,trivial⟩) rfl ?_
 intro j hj hI
 repeat'(first|refine WL_p hty rfl rfl ?_|refine zi ?_|refine za ?_)
 refine zj rfl rfl rfl rfl (fun hc=>?_) (fun hc=>?_)
 ·have hlt:j <b.sorts.length:=by rw[zQ]at hc;omega
  obtain⟨k,hk,hmem⟩:=zA hlt
  have hks:=zat hmem
  unfold Sr.size at hks
  have rk:=zaK hk
  have hat:=zaA (p:=zhT) hk
  repeat'(first|refine zL rfl (zfQ _ (by omega)) rfl (fun _=>?_) (fun _=>?_)|refine zL rfl (zfj _ (by omega)) rfl (fun _=>?_) (fun _=>?_)|refine WL_p hty rfl rfl ?_|refine zh ?_|refine zi ?_|refine za ?_|refine zf ?_|refine zxg ?_|refine zd rfl ?_|refine zbZ rfl ?_|refine zg ?_|refine zx rfl rfl ?_|refine zot rfl rfl rfl ?_|refine WL_m rfl (zm hty rfl rfl rfl (by assumption) rfl) ?_|refine zb rfl ?_)
  all_goals first
   |have h3:b.sorts.any zhT=true:=zbI hk (by simp_all [zhT];done)
    simp[zgw,h3]
    done
   |refine⟨hlt,?_,(zfY ⟨zz rfl rfl,⟨_,rfl,zO ?_ rfl⟩,trivial⟩ ⟨zw rfl rfl,trivial⟩)⟩
    ·simp_all [zhT]
    ·exact congrArg (AV.int .i64) ((zy (by omega) (by omega)).trans (by omega))
 ·obtain rfl:j=b.sorts.length:=by rw[zQ]at hc;omega
  rw[List.take_length]at hI
  repeat'(first|refine WL_p hty rfl rfl ?_|refine zh ?_|refine zi ?_|refine za ?_|refine zf ?_|refine zbZ rfl ?_|refine zl ?_)
  clear hj hc
  refine zW b.cons.length (fun j=>(b.cons.take j).any zh4=false) (fun j=>⟨envOf [(1,.ptr 1 0),(4,.int .i64 (j:Nat))],bkOf [(1,.box [.lst 6 (zY b.sorts) false,.lst 6 (rsC b.cons) false,.int .i64 b.elim])]⟩)
   (zfY ⟨zz rfl rfl,zz rfl rfl,trivial⟩ ⟨zw rfl rfl,trivial⟩) rfl ?_
  intro j hj hJ
  repeat'(first|refine WL_p hty rfl rfl ?_|refine zi ?_|refine za ?_)
  refine zj rfl rfl rfl rfl (fun hc=>?_) (fun hc=>?_)
  ·have hlt:j <b.cons.length:=by rw[zZ]at hc;omega
   obtain⟨k,hk,hmem⟩:=zA hlt
   have hks:=zaB hmem
   unfold Cn.size at hks
   have rk:=zby hk
   have hat:=zaA (p:=zh4) hk
   repeat'(first|refine zL rfl (zfQ _ (by omega)) rfl (fun _=>?_) (fun _=>?_)|refine zL rfl (zfj _ (by omega)) rfl (fun _=>?_) (fun _=>?_)|refine zL rfl (zde _ (by omega)) rfl (fun _=>?_) (fun _=>?_)|refine WL_p hty rfl rfl ?_|refine zh ?_|refine zi ?_|refine za ?_|refine zf ?_|refine zxg ?_|refine zd rfl ?_|refine zbZ rfl ?_|refine zg ?_|refine zx rfl rfl ?_|refine zot rfl rfl rfl ?_|refine WL_m rfl (zm hty rfl rfl rfl (by assumption) rfl) ?_|refine zb rfl ?_)
   all_goals first
    |have h3:b.cons.any zh4=true:=zbI hk (by simp_all [zh4];done)
     simp[zgw,h3]
     done
    |refine⟨hlt,?_,(zfY ⟨zz rfl rfl,⟨_,rfl,zO ?_ rfl⟩,trivial⟩ ⟨zw rfl rfl,trivial⟩)⟩
     ·simp_all [zh4]
     ·exact congrArg (AV.int .i64) ((zy (by omega) (by omega)).trans (by omega))
  ·obtain rfl:j=b.cons.length:=by rw[zZ]at hc;omega
   rw[List.take_length]at hJ
   repeat'(first|refine WL_p hty rfl rfl ?_|refine zh ?_|refine zi ?_|refine za ?_|refine zbZ rfl ?_|refine zl ?_|refine zg ?_|refine zb rfl ?_)
   simp only[zgw,hI,hJ];simp[h10,h20]
end Go.Proofs.YtokfbblhjpfjkaaGreat
namespace Go.Proofs.YtokfbblhjpfjkaaGreat
open Go.Aw Go.RowKit
theorem zui:Tryz.prog.cellsOf 49=12:=by kernel_rfl
section
variable {H:Type} {enc:TypeId×Value→H} {w:World} {fuel:Nat} {cs:List Value} {d:DataW H} {ps:List MemPlace}
theorem zpA(l:List En):(l.map fun t=>3*En.size t).sum=3*zbJ l:=by
 induction l with
 |nil=>rfl
 |cons a l ih=>simp only[List.map_cons,List.sum_cons,ih,zbJ];omega
theorem zuP(l:List En):l.map cE=rsE l:=(zlU l).symm
set_option maxRecDepth 100000 in
theorem zt5{cs}{d:DataW H}{ps}(h:DataW.trod enc Tryz.prog w 0 (fun _=>true) true fuel 49 cs=some (d,ps)): ∃ t:En,CV (zdR w) w cs (cE t)∧3*t.size≤Rows.uptoBulk d:=by
 obtain⟨xs,n,rfl,e,hl,hxl,hf⟩:=DataW.trod_struct Tryz.underlying49 h
 obtain⟨rfl,rfl⟩:=Prod.mk.inj e
 rw[zui]at hl
 match xs,hxl,cs,hl with
 |[x0,x1,x2,x3,x4,x5],_,[c0,c1,c2,c3,c4,c5,c6,c7,c8,c9,c10,c11],_=>
  have h0:DataW.trod enc Tryz.prog w 0 (fun _=>true) true n 3 (List.take (Tryz.prog.cellsOf 3) [c0,c1,c2,c3,c4,c5,c6,c7,c8,c9,c10,c11])=some (x0.1,x0.2):=hf 0 _ rfl
  rw[zek]at h0
  have h1:DataW.trod enc Tryz.prog w 0 (fun _=>true) true n 25 (List.take (Tryz.prog.cellsOf 25) [c1,c2,c3,c4,c5,c6,c7,c8,c9,c10,c11])=some (x1.1,x1.2):=hf 1 _ rfl
  rw[zim]at h1
  have h2:DataW.trod enc Tryz.prog w 0 (fun _=>true) true n 25 (List.take (Tryz.prog.cellsOf 25) [c4,c5,c6,c7,c8,c9,c10,c11])=some (x2.1,x2.2):=hf 2 _ rfl
  rw[zim]at h2
  have h3:DataW.trod enc Tryz.prog w 0 (fun _=>true) true n 3 (List.take (Tryz.prog.cellsOf 3) [c7,c8,c9,c10,c11])=some (x3.1,x3.2):=hf 3 _ rfl
  rw[zek]at h3
  have h4:DataW.trod enc Tryz.prog w 0 (fun _=>true) true n 3 (List.take (Tryz.prog.cellsOf 3) [c8,c9,c10,c11])=some (x4.1,x4.2):=hf 4 _ rfl
  rw[zek]at h4
  have h5:DataW.trod enc Tryz.prog w 0 (fun _=>true) true n 47 (List.take (Tryz.prog.cellsOf 47) [c9,c10,c11])=some (x5.1,x5.2):=hf 5 _ rfl
  rw[zum]at h5
  obtain⟨o,_,r0,_⟩:=zcr Tryz.underlying3 h0
  obtain⟨m,r1,s1⟩:=zeK _ _ _ _ h1
  obtain⟨l,r2,s2⟩:=zeK _ _ _ _ h2
  obtain⟨p,_,r3,_⟩:=zcr Tryz.underlying3 h3
  obtain⟨q,_,r4,_⟩:=zcr Tryz.underlying3 h4
  obtain⟨z,r5,s5⟩:=ztZ h5
  refine⟨⟨o,m,l,p,q,z⟩,r0.append (r1.append (r2.append (r3.append (r4.append r5)))),?_⟩
  simp only[En.size,List.map_cons,List.map_nil,Rows.uptoBulk,Rows.uptoBulkAll]
  omega
theorem zsk{cs}{d:DataW H}{ps}(h:DataW.trod enc Tryz.prog w 0 (fun _=>true) true fuel 22 cs=some (d,ps)): ∃ l:List En,CV (zdR w) w cs [sE l]∧3*zbJ l≤Rows.uptoBulk d:=by
 obtain⟨l,r2,hs⟩:=zcw Tryz.underlying22 zui (by decide) (fun t=>3*En.size t) cE Rows.uptoBulk zcx (fun m cs d ps hm hh=>zt5 hh) h
 rw[zuP]at r2
 rw[zpA]at hs
 exact⟨l,r2,hs⟩
end
end Go.Proofs.YtokfbblhjpfjkaaGreat
