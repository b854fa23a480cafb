/- Variables replaced: what a variable is replaced by, what comes of a term, free v -/
import Derived.Test.YtokfbblhjpfjkaaGreatGC
set_option linter.unusedSimpArgs false
set_option linter.unusedVariables false
namespace Go.Proofs.YtokfbblhjpfjkaaGreat
open Go.Aw Go.RowKit
def zBs:List (Nat×List Nat):=[(0,[]),(1,[0]),(2,[]),(3,[2]),(4,[0,1]),(5,[0,1,2,3,4])]
def zBy:List (Nat×List Nat):=[(0,[]),(1,[]),(2,[1]),(3,[1,2]),(4,[1,2,3]),(5,[1,2,3,4]),(6,[1,2,3,4,5]),(7,[1,2,3,4,5,6]),(8,[1,2,3,4,5,6,7]),(9,[1,2,3,4,5,6,7,8]),(10,[1,2,3,4,5,6,7,8,9]),(11,[1,2,3,4,5,6,7,8,9,10]),(12,[1,2,3,4,5,6,7,8,9]),(13,[1,2,3,4,5,6,7,8,9,12]),(14,[1,2,3,4,5,6,7,8,9,12,13]),(15,[1,2,3,4,5,6,7,8,9,12,13,14]),(16,[1,2,3,4,5,6,7,8,9,10,11,12,13,14,15]),(17,[1,2,3,4,5,6,7,8,9]),(18,[1,2,3,4,5,6,7,8,9,10,11,12,13,14,15,16,17]),(19,[1,2,3,4,5,6,7,8,9,10,11,12,13,14,15,16,17,18]),(20,[1,2,3,4,5,6,7,8,9,10,11,12,13,14,15,16,17,18,19]),(21,[1,2,3,4,5,6,7,8,9,10,11,12,13,14,15,16,17,18,19,20]),(22,[0,1,2,3,4,5,6,7,8,9,10,11,12,13,14,15,16,17,18,19,20,21]),(23,[0,1,2,3,4,5,6,7,8,9,10,11,12,13,14,15,16,17,18,19,20,21,22]),(24,[0,1,2,3,4,5,6,7,8,9,10,11,12,13,14,15,16,17,18,19,20,21,22,23])]
attribute [local irreducible] WL AC WD WE MStep OkOp
structure Gr where
 t:Tm
 size:Int
 depth:Int
 free:Int
abbrev cG(g:Gr):List AV:=[.int .i64 g.t.kind,.int .i64 g.t.num,.lst 3 (rsT g.t.kids) false,.int .i64 g.size,.int .i64 g.depth,.int .i64 g.free]
def rsG:List Gr→List (List AV)
 |[]=>[]
 |a::l=>cG a::rsG l
abbrev sG(l:List Gr):AV:=.lst 6 (rsG l) false
theorem zmz(l:List Gr):rsG l=l.map cG:=by
 induction l with
 |nil=>rfl
 |cons t l ih=>simp[rsG,ih]
theorem zjE(l:List Gr):(rsG l).length=l.length:=by rw[zmz,List.length_map]
theorem zqr{l:List Gr}{i:Nat}{t:Gr}(h:l[i]? =some t):(rsG l)[i]? =some (cG t):=by rw[zmz,List.getElem?_map,h];rfl
theorem zo0(l r:List Gr):rsG (l++r)=rsG l++rsG r:=by simp[zmz]
structure Jb where
 args:List Gr
 under:Int
 scope:Bool
 size:Int
 depth:Int
abbrev cJ(j:Jb):List AV:=[sG j.args,.int .i64 j.under,.bool j.scope,.int .i64 j.size,.int .i64 j.depth]
def zd0(l:List Gr)(under n b:Int):Int:=if n <under+b then -1 else if(l.length:Int)≤n-(under+b)then -1 else(l.length:Int)-1-(n-(under+b))
theorem zhP{l:List Gr}{under n b:Int}(h:0≤zd0 l under n b):(zd0 l under n b).toNat <l.length:=by
 unfold zd0 at*
 split at h
 ·omega
 ·split at h
  ·omega
  ·rw[if_neg (by omega),if_neg (by omega)];omega
theorem zke(j:Jb)(n b:Int)(hl:j.args.length≤1048576)(hn:0≤n∧n≤65535)(hu:0≤j.under∧j.under≤65535)(hb:0≤b∧b≤4194304):
 FC Tryz.prog 160 [.eptr (cJ j) 0,.int .i64 n,.int .i64 b] (.int .i64 (zd0 j.args j.under n b)):=by
 have w1:IntKind.i64.wrap (j.under+b)=j.under+b:=zy (by omega) (by omega)
 have w2:IntKind.i64.wrap (n-(j.under+b))=n-(j.under+b):=zy (by omega) (by omega)
 refine zo hty Tryz.func160 rfl rfl rfl fun w0=>?_
 repeat'(first|refine WL_p hty rfl rfl ?_|refine zh ?_|refine zi ?_|refine za ?_|refine zxg ?_|refine zd rfl ?_|refine zbZ rfl ?_|refine zg ?_|refine zx rfl rfl ?_|refine zot rfl rfl rfl ?_|refine zj rfl rfl rfl rfl (fun _=>?_) (fun _=>?_))
 all_goals refine zaQ rfl ?_
 all_goals(try rw[zjE]at*)
 all_goals simp only[w1,w2]at*
 all_goals unfold zd0
 ·rw[if_pos (by assumption)]
 ·rw[if_neg (by assumption),if_pos (by assumption)]
 ·rw[if_neg (by assumption),if_neg (by assumption)]
  have w3:IntKind.i64.wrap ((j.args.length:Int)-1)=(j.args.length:Int)-1:=zy (by omega) (by omega)
  rw[w3]
  exact zy (by omega) (by omega)
def zsK(x:Int):Int:=if 1099511627776 <x then 1099511627776 else x
def mxI(a b:Int):Int:=if b>a then b else a
def zG:Gr:=⟨.mk 0 0 [],0,0,0⟩
def nodeJ(j:Jb)(d:Int):Jb:={j with size:=zsK (IntKind.i64.wrap (j.size+1)),depth:=mxI j.depth (IntKind.i64.wrap (d+1))}
def zuZ(j:Jb)(a:Gr)(b d:Int):Jb:={j with scope:=j.scope||(decide (0≤a.free)&&decide (65535 <IntKind.i64.wrap (IntKind.i64.wrap (a.free+j.under)+b))),size:=zsK (IntKind.i64.wrap (j.size+a.size)),depth:=mxI j.depth (IntKind.i64.wrap (d+a.depth))}
def lookV(j:Jb)(n b d:Int):Jb:=if 0≤zd0 j.args j.under n b then zuZ j (j.args.getD (zd0 j.args j.under n b).toNat zG) b d else nodeJ j d
mutual
def zdw:Tm→Jb→Int→Int→Jb
 | .mk k n l,j,b,d=>if k=1 then lookV j n b d else zbY k 0 l (nodeJ j d) b d
def zbY:Int→Int→List Tm→Jb→Int→Int→Jb
 |_,_,[],j,_,_=>j
 |k,i,t::l,j,b,d=>zbY k (i+1) l (zdw t j (b+zU k i) (d+1)) b d
end
theorem znQ(t:Tm)(j:Jb)(b d:Int):zdw t j b d=if t.kind=1 then lookV j t.num b d else zbY t.kind 0 t.kids (nodeJ j d) b d:=by cases t;rw[zdw];rfl
theorem zia(k b d:Int)(t:Tm): ∀ (l:List Tm) (i:Int) (j:Jb),zbY k i (l++[t]) j b d=zdw t (zbY k i l j b d) (b+zU k (i+l.length)) (d+1)
 |[],i,j=>by simp[zbY]
 |u::l,i,j=>by
  simp only[List.cons_append,zbY,zia k b d t l,List.length_cons]
  rw[show i+1+(l.length:Int)=i+((l.length+1:Nat):Int) by omega]
theorem znc(k b d:Int)(j:Jb){l:List Tm}{i:Nat}{t:Tm}(h:l[i]? =some t):zbY k 0 (l.take (i+1)) j b d=zdw t (zbY k 0 (l.take i) j b d) (b+zU k i) (d+1):=by
 have hlt:i <l.length:=(List.getElem?_eq_some_iff.1 h).1
 have h1:(l.take i).length=i:=by rw[List.length_take];omega
 rw[List.take_add_one,h,Option.toList_some,zia,h1,Int.zero_add]
theorem zoE(j:Jb)(n b d:Int):(lookV j n b d).args=j.args∧(lookV j n b d).under=j.under:=by unfold lookV;split <;>exact⟨rfl,rfl⟩
mutual
theorem zeO: ∀ (t:Tm) (j:Jb) (b d:Int),(zdw t j b d).args=j.args∧(zdw t j b d).under=j.under
 | .mk k n l,j,b,d=>by
   rw[zdw]
   split
   ·exact zoE j n b d
   ·exact zfN k 0 l (nodeJ j d) b d
theorem zfN: ∀ (k i:Int) (l:List Tm) (j:Jb) (b d:Int),(zbY k i l j b d).args=j.args∧(zbY k i l j b d).under=j.under
 |_,_,[],j,_,_=>by rw[zbY];exact⟨rfl,rfl⟩
 |k,i,t::l,j,b,d=>by
  have h1:=zfN k (i+1) l (zdw t j (b+zU k i) (d+1)) b d
  have h2:=zeO t j (b+zU k i) (d+1)
  rw[zbY];exact⟨h1.1.trans h2.1,h1.2.trans h2.2⟩
end
set_option maxHeartbeats 4000000 in
theorem zs0(t:Tm)(j:Jb)(b d:Int)(hk1:t.kind=1)(hfm:formedT t=true)(hl:j.args.length≤1048576)(hu:0≤j.under∧j.under≤65535)(hb:0≤b∧b≤4194304):
 MC Tryz.prog 206 [.ptr 0 0,aT t,.int .i64 b,.int .i64 d] (.box (cJ j)) (.tup []) (.box (cJ (zdw t j b d))):=by
 have hws:=zke j t.num b hl (zdk hfm hk1) hu hb
 have hlk:=znQ t j b d
 rw[if_pos hk1]at hlk
 rw[hlk]
 unfold lookV
 by_cases hw:0≤zd0 j.args j.under t.num b
 ·obtain⟨a,ha,_⟩:=zA (zhP hw)
  have ra:=zqr ha
  rw[if_pos hw,List.getD_eq_getElem?_getD,ha,Option.getD_some]
  obtain⟨args,under,scope,size,depth⟩:=j
  cases scope
  all_goals
   refine zcK hty Tryz.func206 rfl rfl rfl rfl rfl fun w0 B=>?_
   repeat'(first|exact absurd hk1 ‹_›|exact absurd hw ‹_›|refine WL_m rfl (zlg (id0:=0) rfl rfl rfl hws rfl rfl) ?_|refine WL_m rfl (zaq hty rfl rfl rfl hw ra rfl) ?_|refine WL_m rfl (znM rfl rfl rfl) ?_|refine WL_m rfl (zey rfl rfl rfl) ?_|(refine zab (zfY (l:=[(0,_),(2,_),(3,_),(11,_)]) (bl:=[(0,_),(11,_)]) ⟨zz rfl rfl,zz rfl rfl,zz rfl rfl,zz rfl rfl,trivial⟩ ⟨zw rfl rfl,zw rfl rfl,trivial⟩) ?_;refine zD (id:=6) zBs rfl (by kernel_rfl) ?_)|refine zD (id:=7) zBy rfl (by kernel_rfl) ?_|refine zu (.inl ⟨rfl,zI hty rfl rfl⟩) ?_|refine zaG rfl rfl ?_|refine zau rfl rfl rfl ?_|refine zav rfl rfl rfl ?_|refine zaw rfl rfl rfl ?_|refine zS ⟨by kernel_rfl,?_⟩|refine WL_p hty rfl rfl ?_|refine zh ?_|refine zi ?_|refine za ?_|refine zd rfl ?_|refine zg ?_|refine zj rfl rfl rfl rfl (fun _=>?_) (fun _=>?_)|refine zaC rfl rfl rfl rfl (fun _=>?_) (fun _=>?_))
   all_goals refine zdL 0 rfl rfl rfl rfl rfl rfl (.of_eq (congrArg (AB.bx none) ?_))
   all_goals simp[zuZ,zsK,mxI, *]
 ·rw[if_neg hw]
  refine zcK hty Tryz.func206 rfl rfl rfl rfl rfl fun w0 B=>?_
  repeat'(first|exact absurd hk1 ‹_›|exact absurd (by assumption) hw|refine WL_m rfl (zlg (id0:=0) rfl rfl rfl hws rfl rfl) ?_|refine WL_m rfl (znM rfl rfl rfl) ?_|refine WL_m rfl (zey rfl rfl rfl) ?_|refine WL_p hty rfl rfl ?_|refine zh ?_|refine zi ?_|refine za ?_|refine zxg ?_|refine zd rfl ?_|refine zbZ rfl ?_|refine zg ?_|refine zj rfl rfl rfl rfl (fun _=>?_) (fun _=>?_))
  refine zdL 0 rfl rfl rfl rfl rfl rfl (.of_eq (congrArg (AB.bx none) ?_))
  rfl
end Go.Proofs.YtokfbblhjpfjkaaGreat
namespace Go.Proofs.YtokfbblhjpfjkaaGreat
open Go.Aw Go.RowKit
def zAO:List (Nat×List Nat):=[(0,[]),(1,[]),(2,[]),(3,[]),(4,[3]),(5,[]),(6,[3,4,5]),(7,[2,3,4,5,6]),(8,[]),(9,[8]),(10,[0,1,2,3,4,5,6,7,8,9])]
def zA6:List (Nat×List Nat):=[(0,[]),(1,[]),(2,[]),(3,[]),(4,[3]),(5,[]),(6,[3,4,5]),(7,[2,3,4,5,6]),(8,[1,2,3,4,5,6,7]),(9,[0,1,2,3,4,5,6,7,8]),(10,[0,1,2,3,4,5,6,7,8,9])]
attribute [local irreducible] WL AC WD WE MStep OkOp
set_option maxHeartbeats 4000000 in
theorem zs3: ∀ n,n≤1048576→ ∀ (t:Tm) (j:Jb) (b d:Int),t.size≤n→formedT t=true→j.args.length≤1048576→0≤j.under∧j.under≤65535→0≤b→b+t.depth≤4194304→0≤d→d+t.depth≤4194304→
 MC Tryz.prog 206 [.ptr 0 0,aT t,.int .i64 b,.int .i64 d] (.box (cJ j)) (.tup []) (.box (cJ (zdw t j b d))):=by
 intro n
 induction n with
 |zero=>intro hn t j b d ht;have:=t.size_pos;omega
 |succ n ih=>
 intro hn t j b d ht hfm hl hu hb0 hb hd0 hd
 have ih:=ih (by omega)
 have hs:=t.size_eq
 have hdp:=t.depth_eq
 have hlen:=zM t.kids
 by_cases hk1:t.kind=1
 ·exact zs0 t j b d hk1 hfm hl hu ⟨hb0,by omega⟩
 have hlk:=znQ t j b d
 rw[if_neg hk1]at hlk
 rw[hlk]
 refine zcK hty Tryz.func206 rfl rfl rfl rfl rfl fun w0 B=>?_
 repeat'(first|exact absurd ‹_› hk1|refine WL_m rfl (znM rfl rfl rfl) ?_|refine WL_m rfl (zey rfl rfl rfl) ?_|refine WL_p hty rfl rfl ?_|refine zh ?_|refine zi ?_|refine za ?_|refine zf ?_|refine zxg ?_|refine zbZ rfl ?_|refine zj rfl rfl rfl rfl (fun _=>?_) (fun _=>?_))
 refine zW t.kids.length (fun _=>True) (fun i=>⟨envOf [(0,.ptr 0 0),(2,.int .i64 b),(3,.int .i64 d),(5,.ptr 5 0),(100,sT t.kids),(101,.int .i64 ((rsT t.kids).length:Nat)),(102,.int .i64 (i:Nat))],
  bkOf [(0,.bx (some B) (cJ (zbY t.kind 0 (t.kids.take i) (nodeJ j d) b d))),(5,.box (cT t))]⟩)
  (zfY ⟨zz rfl rfl,zz rfl rfl,zz rfl rfl,zz rfl rfl,zz rfl rfl,zz rfl rfl,zz rfl rfl,trivial⟩ ⟨⟨⟨_,rfl,.of_eq ?_⟩,rfl⟩,zw rfl rfl,trivial⟩) trivial ?_
 ·rfl
 intro i hi _
 repeat'(first|refine zi ?_|refine za ?_)
 refine zj rfl rfl rfl rfl (fun hc=>?_) (fun hc=>?_)
 ·have hlt:i <t.kids.length:=by rw[zeb]at hc;omega
  obtain⟨k,hk,hmem⟩:=zA hlt
  have hks:=zK hmem
  have hkd:=zaU hmem
  have rk:=zac hk
  have hbi:0≤zU t.kind (i:Nat)∧zU t.kind (i:Nat)≤1:=by unfold zU;split <;>omega
  have hwr:IntKind.i64.wrap (b+zU t.kind (i:Nat))=b+zU t.kind (i:Nat):=zy (n:=b+zU t.kind (i:Nat)) (by omega) (by omega)
  have hwd:IntKind.i64.wrap (d+1)=d+1:=zy (n:=d+1) (by omega) (by omega)
  have hkp:=zfN t.kind 0 (t.kids.take i) (nodeJ j d) b d
  have hkc:=ih k (zbY t.kind 0 (t.kids.take i) (nodeJ j d) b d) (b+zU t.kind (i:Nat)) (d+1) (by omega) (zao hfm hmem) (by rw[hkp.1];exact hl) (by rw[hkp.2];exact hu) (by omega) (by omega) (by omega) (by omega)
  rw[←znc t.kind b d (nodeJ j d) hk, ←hwr, ←hwd]at hkc
  repeat'(first|(refine zab (zfY (l:=[(0,_),(2,_),(3,_),(5,_),(12,_),(13,_),(100,_),(101,_),(102,_)]) (bl:=[(0,_),(5,_),(13,_)]) ⟨zz rfl rfl,zz rfl rfl,zz rfl rfl,zz rfl rfl,zz rfl rfl,zz rfl rfl,zz rfl rfl,zz rfl rfl,zz rfl rfl,trivial⟩ ⟨zw rfl rfl,zw rfl rfl,zw rfl rfl,trivial⟩) ?_;refine zD (id:=15) zAO rfl (by kernel_rfl) ?_)|refine zu (.inl ⟨rfl,zar 0 rfl (zcB _ _) rfl rfl rfl⟩) ?_|refine zu (.inl ⟨rfl,zcd 0 rfl rfl rfl hkc rfl rfl⟩) ?_|refine zu (.inl ⟨rfl,zI hty rfl rfl⟩) ?_|refine zS ⟨by kernel_rfl,?_⟩|refine WL_p hty rfl rfl ?_|refine zh ?_|refine zi ?_|refine za ?_|refine zf ?_|refine zxg ?_|refine zd rfl ?_|refine WL_m rfl (zm hty rfl rfl rfl (by assumption) rfl) ?_)
  refine⟨hlt,trivial,(zfY ⟨zz rfl rfl,zz rfl rfl,zz rfl rfl,zz rfl rfl,zz rfl rfl,zz rfl rfl,⟨_,rfl,zO ?_ rfl⟩,trivial⟩ ⟨⟨⟨_,rfl,.of_eq ?_⟩,rfl⟩,zw rfl rfl,trivial⟩)⟩
  ·exact congrArg (AV.int .i64) ((zy (by omega) (by omega)).trans (by omega))
  ·rfl
 ·obtain rfl:i=t.kids.length:=by rw[zeb]at hc;omega
  repeat'(first|refine zh ?_|refine zi ?_|refine zbZ rfl ?_|refine zl ?_)
  refine zh1 0 rfl rfl rfl rfl rfl rfl (.of_eq ?_)
  rw[List.take_length]
theorem zkX(t:Tm)(j:Jb)(b d:Int)(hs:t.size≤1048576)(hfm:formedT t=true)(hl:j.args.length≤1048576)(hu:0≤j.under∧j.under≤65535)(hb0:0≤b)(hb:b+t.depth≤4194304)(hd0:0≤d)(hd:d+t.depth≤4194304):
 MC Tryz.prog 206 [.ptr 0 0,aT t,.int .i64 b,.int .i64 d] (.box (cJ j)) (.tup []) (.box (cJ (zdw t j b d))):=
 zs3 1048576 (by omega) t j b d hs hfm hl hu hb0 hb hd0 hd
mutual
def ziv:Tm→Int→Int
 | .mk k n l,b=>zdO k 0 l b (if k=1∧b≤n then n else -1)
def zdO:Int→Int→List Tm→Int→Int→Int
 |_,_,[],_,acc=>acc
 |k,i,t::l,b,acc=>zdO k (i+1) l b (mxI acc (ziv t (b+zU k i)))
end
theorem zsA(t:Tm)(b:Int):ziv t b=zdO t.kind 0 t.kids b (if t.kind=1∧b≤t.num then t.num else -1):=by cases t;rw[ziv];rfl
theorem zis(k b:Int)(t:Tm): ∀ (l:List Tm) (i acc:Int),zdO k i (l++[t]) b acc=mxI (zdO k i l b acc) (ziv t (b+zU k (i+l.length)))
 |[],i,acc=>by simp[zdO]
 |u::l,i,acc=>by
  simp only[List.cons_append,zdO,zis k b t l,List.length_cons]
  rw[show i+1+(l.length:Int)=i+((l.length+1:Nat):Int) by omega]
theorem zmS(k b acc:Int){l:List Tm}{i:Nat}{t:Tm}(h:l[i]? =some t):zdO k 0 (l.take (i+1)) b acc=mxI (zdO k 0 (l.take i) b acc) (ziv t (b+zU k i)):=by
 have hlt:i <l.length:=(List.getElem?_eq_some_iff.1 h).1
 have h1:(l.take i).length=i:=by rw[List.length_take];omega
 rw[List.take_add_one,h,Option.toList_some,zis,h1,Int.zero_add]
set_option maxHeartbeats 4000000 in
theorem zsu: ∀ n,n≤1048576→ ∀ (t:Tm) (b:Int),t.size≤n→0≤b→b+t.depth≤4194304→FC Tryz.prog 205 [aT t,.int .i64 b] (.int .i64 (ziv t b)):=by
 intro n
 induction n with
 |zero=>intro hn t b ht;have:=t.size_pos;omega
 |succ n ih=>
 intro hn t b ht hb0 hb
 have ih:=ih (by omega)
 have hs:=t.size_eq
 have hdp:=t.depth_eq
 have hlen:=zM t.kids
 have hfe:=zsA t b
 refine zo hty Tryz.func205 rfl rfl rfl fun w0=>?_
 obtain⟨a0,ha0⟩: ∃ a0:Int,a0=if t.kind=1∧b≤t.num then t.num else -1:=⟨_,rfl⟩
 rw[←ha0]at hfe
 repeat'(first|refine WL_p hty rfl rfl ?_|refine zh ?_|refine zi ?_|refine za ?_|refine zf ?_|refine zxg ?_|refine zd rfl ?_|refine zbZ rfl ?_|refine zx rfl rfl ?_|refine zq rfl rfl rfl ?_|refine zj rfl rfl rfl rfl (fun _=>?_) (fun _=>?_))
 all_goals
  have hacc: ∀ x:Int,x=a0→AV.int IntKind.i64 x=AV.int IntKind.i64 (zdO t.kind 0 (t.kids.take 0) b a0):=fun x hx=>by rw[hx];rfl
  refine zW t.kids.length (fun _=>True) (fun i=>⟨envOf [(1,.int .i64 b),(2,.ptr 2 0),(5,.int .i64 (zdO t.kind 0 (t.kids.take i) b a0)),(20,sT t.kids),(21,.int .i64 ((rsT t.kids).length:Nat)),(22,.int .i64 (i:Nat))],bkOf [(2,.box (cT t))]⟩)
   (zfY ⟨zz rfl rfl,zz rfl rfl,⟨_,rfl,zO ?_ rfl⟩,zz rfl rfl,zz rfl rfl,zz rfl rfl,trivial⟩ ⟨zw rfl rfl,trivial⟩) trivial ?_
  ·refine hacc _ ?_
   rw[ha0]
   simp[*]
  clear hacc
  intro i hi _
  repeat'(first|refine zi ?_|refine za ?_)
  refine zj rfl rfl rfl rfl (fun hc=>?_) (fun hc=>?_)
  ·have hlt:i <t.kids.length:=by rw[zeb]at hc;omega
   obtain⟨k,hk,hmem⟩:=zA hlt
   have hks:=zK hmem
   have hkd:=zaU hmem
   have rk:=zac hk
   have hbi:0≤zU t.kind (i:Nat)∧zU t.kind (i:Nat)≤1:=by unfold zU;split <;>omega
   have hwr:IntKind.i64.wrap (b+zU t.kind (i:Nat))=b+zU t.kind (i:Nat):=zy (n:=b+zU t.kind (i:Nat)) (by omega) (by omega)
   have hkc:=ih k (b+zU t.kind (i:Nat)) (by omega) (by omega) (by omega)
   rw[←hwr]at hkc
   repeat'(first|refine zD (id:=7) zA6 rfl (by kernel_rfl) ?_|refine zu (.inl ⟨rfl,zar 0 rfl (zcB _ _) rfl rfl rfl⟩) ?_|refine zu (.inl ⟨rfl,zar 0 rfl hkc rfl rfl rfl⟩) ?_|refine zu (.inl ⟨rfl,zey rfl rfl rfl⟩) ?_|refine zu (.inl ⟨rfl,zI hty rfl rfl⟩) ?_|refine zS ⟨by kernel_rfl,?_⟩|refine WL_p hty rfl rfl ?_|refine zh ?_|refine zi ?_|refine za ?_|refine zf ?_|refine zxg ?_|refine zd rfl ?_|refine WL_m rfl (zm hty rfl rfl rfl (by assumption) rfl) ?_)
   refine⟨hlt,trivial,(zfY ⟨zz rfl rfl,zz rfl rfl,⟨_,rfl,zO ?_ rfl⟩,zz rfl rfl,zz rfl rfl,⟨_,rfl,zO ?_ rfl⟩,trivial⟩ ⟨zw rfl rfl,trivial⟩)⟩
   ·rw[zmS t.kind b a0 hk,hwr];rfl
   ·exact congrArg (AV.int .i64) ((zy (by omega) (by omega)).trans (by omega))
  ·obtain rfl:i=t.kids.length:=by rw[zeb]at hc;omega
   repeat'(first|refine WL_p hty rfl rfl ?_|refine zh ?_|refine zi ?_|refine za ?_|refine zbZ rfl ?_|refine zl ?_|refine zg ?_)
   refine zaQ rfl ?_
   rw[List.take_length,hfe]
theorem zll(t:Tm)(b:Int)(hs:t.size≤1048576)(hb0:0≤b)(hb:b+t.depth≤4194304):FC Tryz.prog 205 [aT t,.int .i64 b] (.int .i64 (ziv t b)):=zsu 1048576 (by omega) t b hs hb0 hb
def zth(by_:Int)(n b:Int):Tm:=.mk 1 (if b≤n then IntKind.i64.wrap (n+by_)else n) []
def zl8(t:Tm)(by_:Int):Tm:=zeF (zth by_) 0 t
theorem zrb(c n b:Int):FC Tryz.prog 207 ([.int .i64 n,.int .i64 b]++[.eptr [.int .i64 c] 0]) (aT (zth c n b)):=by
 unfold zth
 refine zo hty Tryz.func207 rfl rfl rfl fun w0=>?_
 repeat'(first|refine zv 0 rfl (ziL _) rfl rfl rfl ?_|refine WL_p hty rfl rfl ?_|refine zh ?_|refine zi ?_|refine za ?_|refine zxg ?_|refine zd rfl ?_|refine zbZ rfl ?_|refine zg ?_|refine zj rfl rfl rfl rfl (fun _=>?_) (fun _=>?_))
 ·rw[if_pos (by assumption)]
  exact zH rfl rfl (.refl _)
 ·rw[if_neg (by assumption)]
  exact zH rfl rfl (.refl _)
theorem zpp(t:Tm)(c:Int)(hs:t.size≤1048576)(hfm:formedT t=true):FC Tryz.prog 161 [aT t,.int .i64 c] (aT (zl8 t c)):=by
 have hdl:=t.depth_le
 have hm:=znF 207 [.eptr [.int .i64 c] 0] rfl (zth c) 4194304 (by omega) (fun n b _ _ _ _=>zrb c n b) t 0 hs hfm (by omega) (by omega)
 refine zo hty Tryz.func161 rfl rfl rfl fun w0=>?_
 repeat'(first|refine zbd (z6 3 rfl rfl) ?_|refine WL_m rfl (zbo rfl rfl rfl) ?_|refine zv 0 rfl hm rfl rfl rfl ?_|refine WL_p hty rfl rfl ?_|refine zh ?_|refine zi ?_|refine za ?_|refine zg ?_)
 exact zH rfl rfl (.refl _)
end Go.Proofs.YtokfbblhjpfjkaaGreat
namespace Go.Proofs.YtokfbblhjpfjkaaGreat
open Go.Aw Go.RowKit
def zAH:List (Nat×List Nat):=[(0,[]),(1,[]),(2,[1]),(3,[1,2]),(4,[1,2,3]),(5,[]),(6,[]),(7,[6]),(8,[]),(9,[6,7,8]),(10,[]),(11,[6,7,8,9,10]),(12,[5,6,7,8,9,10,11]),(13,[5,6,7,8,9,10,11,12]),(14,[1,2,3,4,5,6,7,8,9,10,11,12,13]),(15,[0,1,2,3,4,5,6,7,8,9,10,11,12,13,14]),(16,[0,1,2,3,4,5,6,7,8,9,10,11,12,13,14,15]),(17,[0,1,2,3,4,5,6,7,8,9,10,11,12,13,14,15,16])]
def zzs:List (Nat×List Nat):=[(0,[100046]),(1,[]),(2,[1]),(3,[1,2]),(4,[1,2,3]),(5,[]),(6,[]),(7,[6]),(8,[]),(9,[6,7,8]),(10,[]),(11,[6,7,8,9,10]),(12,[5,6,7,8,9,10,11]),(13,[5,6,7,8,9,10,11,12]),(14,[1,2,3,4,5,6,7,8,9,10,11,12,13]),(15,[0,1,2,3,4,5,6,7,8,9,10,11,12,13,14]),(16,[0,1,2,3,4,5,6,7,8,9,10,11,12,13,14,15]),(17,[0,1,2,3,4,5,6,7,8,9,10,11,12,13,14,15,16])]
attribute [local irreducible] WL AC WD WE MStep OkOp
def gOf(t:Tm):Gr:=⟨t,(t.size:Nat),(t.depth:Nat),ziv t 0⟩
def zeG(t:Tm)(args:List Tm)(under:Int):Jb:=zdw t ⟨args.map gOf,under,false,0,0⟩ 0 0
def zdx(t:Tm)(args:List Tm)(under:Int):Int:=if checkT t≠0 then checkT t else match args.find? (fun a=>decide (checkT a≠0))with
 |some a=>checkT a
 |none=>if under <0∨65535 <under then 1 else 0
abbrev zdq(t:Tm)(args:List Tm)(under:Int):AV:=if zdx t args under=0 then .tup [.eptr (cJ (zeG t args under)) 0,.int .i64 0]else .tup [.nilp,.int .i64 (zdx t args under)]
theorem zcH{t:Tm}(h:checkT t=0):t.size≤6000∧t.depth≤200∧formedT t=true:=by
 unfold checkT at h
 split at h
 ·omega
 ·split at h
  ·omega
  ·split at h
   ·exact⟨by omega,by omega,by assumption⟩
   ·omega
def mkO(t:Tm)(args:List Tm)(under:Int):Nat→AS
 |0=>⟨envOf [(2,.int .i64 under),(3,.ptr 3 0),(9,.ptr 20 0),(21,sT args),(22,.int .i64 ((rsT args).length:Nat)),(23,.int .i64 0)],bkOf [(3,.box (cT t)),(20,.box [.lst 6 [] true,.int .i64 under,.bool false,.int .i64 0,.int .i64 0])]⟩
 |j+1=>⟨envOf [(2,.int .i64 under),(3,.ptr 3 0),(9,.ptr 20 0),(21,sT args),(22,.int .i64 ((rsT args).length:Nat)),(23,.int .i64 ((j+1:Nat):Int))],
   bkOf [(3,.box (cT t)),(20,.box [.arr 46,.int .i64 under,.bool false,.int .i64 0,.int .i64 0]),(46,.arr 170 6 (rsG ((args.take (j+1)).map gOf)) false)]⟩
theorem zlW{args:List Tm}(h: ∀ (i:Nat) (a:Tm),args[i]? =some a→checkT a=0):args.find? (fun a=>decide (checkT a≠0))=none:=by
 rw[List.find?_eq_none]
 intro a ha
 obtain⟨i,hi,rfl⟩:=List.mem_iff_getElem.1 ha
 have:=h i args[i] (List.getElem?_eq_getElem hi)
 simp[this]
theorem znA{α:Type}{p:α→Bool}{a:α}(hp:p a=true): ∀ {l:List α} {j:Nat},(∀ (i:Nat) (b:α),i <j→l[i]? =some b→p b=false)→l[j]? =some a→l.find? p=some a
 |[],j,_,h=>by simp at h
 |b::l,0,_,h=>by
  obtain rfl:b=a:=by simpa using h
  simp[hp]
 |b::l,j+1,h0,h=>by
  have hb:=h0 0 b (Nat.succ_pos j) rfl
  rw[List.find?_cons,hb]
  exact znA hp (fun i c hi hc=>h0 (i+1) c (Nat.succ_lt_succ hi) (by simpa using hc)) (by simpa using h)
set_option maxHeartbeats 8000000 in
theorem zp5(t:Tm)(args:List Tm)(under:Int)(hs:t.size≤1048576)(ha:sizes args≤1048576):FC Tryz.prog 158 [aT t,sT args,.int .i64 under] (zdq t args under):=by
 have hlen:=zM args
 refine zo hty Tryz.func158 rfl rfl rfl fun w0=>?_
 repeat'(first|refine zv 0 rfl (zb2 t hs) rfl rfl rfl ?_|refine WL_p hty rfl rfl ?_|refine zh ?_|refine zi ?_|refine za ?_|refine zf ?_|refine zxg ?_|refine zd rfl ?_|refine zbZ rfl ?_|refine zg ?_|refine zj rfl rfl rfl rfl (fun _=>?_) (fun _=>?_))
 ·have he:zdx t args under=checkT t:=by unfold zdx;rw[if_pos (by assumption)]
  rw[zdq,if_neg (by rw[he];assumption),he]
  exact zH rfl rfl (.refl _)
 rename_i hct
 have hct:checkT t=0:=by omega
 have hoe:zdx t args under=match args.find? (fun a=>decide (checkT a≠0))with
  |some a=>checkT a
  |none=>if under <0∨65535 <under then 1 else 0:=by unfold zdx;rw[if_neg (by omega)]
 obtain⟨hc1,hc2,hc3⟩:=zcH hct
 refine zW args.length (fun j=> ∀ i a,i <j→args[i]? =some a→checkT a=0) (mkO t args under) (zfY ⟨zz rfl rfl,zz rfl rfl,zz rfl rfl,zz rfl rfl,zz rfl rfl,zz rfl rfl,trivial⟩ ⟨zw rfl rfl,zw rfl rfl,trivial⟩) (fun i a hi=>by omega) ?_
 intro j hj hI
 have key: ∀ a,args[j]? =some a→rsG ((args.take (j+1)).map gOf)=rsG ((args.take j).map gOf)++[cG (gOf a)]:=fun a ha=>by
  rw[List.take_add_one,ha,Option.toList_some,List.map_append,zo0];rfl
 have hbad: ∀ a,args[j]? =some a→checkT a≠0→zdx t args under=checkT a:=fun a hj hca=>by
  rw[hoe,znA (p:=fun a=>decide (checkT a≠0)) (by simp[hca]) (fun i b hi hb=>by simp[hI i b hi hb]) hj]
 have hnext: ∀ a,args[j]? =some a→checkT a=0→ ∀ i b,i <j+1→args[i]? =some b→checkT b=0:=fun a hj hca i b hi hb=>by
  rcases Nat.lt_or_ge i j with q|q
  ·exact hI i b q hb
  ·obtain rfl:i=j:=by omega
   rw[hj]at hb
   obtain rfl:=Option.some.inj hb
   exact hca
 have hfin:j=args.length→zdx t args under=if under <0∨65535 <under then 1 else 0:=fun e=>by
  rw[hoe,zlW (fun i a h=>hI i a (by have:=(List.getElem?_eq_some_iff.1 h).1;omega) h)]
 cases j with
 |zero=>
  repeat'(first|refine zi ?_|refine za ?_)
  refine zj rfl rfl rfl rfl (fun hc=>?_) (fun hc=>?_)
  ·have hlt:0 <args.length:=by rw[zeb]at hc;omega
   obtain⟨a,haj,hmem⟩:=zA hlt
   have hks:=zK hmem
   have hkd:=a.depth_le
   have ra:=zac haj
   have hk:=key a haj
   repeat'(first|refine WL_m rfl (zm (i:=0) hty rfl rfl rfl ra rfl) ?_|refine zv 0 rfl (zb2 a (by omega)) rfl rfl rfl ?_|refine WL_p hty rfl rfl ?_|refine zh ?_|refine zi ?_|refine za ?_|refine zf ?_|refine zxg ?_|refine zd rfl ?_|refine zbZ rfl ?_|refine zg ?_|refine zj rfl rfl rfl rfl (fun _=>?_) (fun _=>?_))
   ·rename_i hca
    rw[zdq,if_neg (by rw[hbad a haj hca];exact hca),hbad a haj hca]
    exact zH rfl rfl (.refl _)
   ·rename_i hca
    have hca:checkT a=0:=by omega
    repeat'(first|refine zD (id:=11) zAH rfl (by kernel_rfl) ?_|refine zu (.inl ⟨rfl,zar 0 rfl (zgJ a (by omega)) rfl rfl rfl⟩) ?_|refine zu (.inl ⟨rfl,zar 0 rfl (zfO a (by omega)) rfl rfl rfl⟩) ?_|refine zu (.inl ⟨rfl,zar 0 rfl (zll a 0 (by omega) (by omega) (by omega)) rfl rfl rfl⟩) ?_|refine zu (.inl ⟨rfl,ze7 hty 46 rfl rfl rfl rfl rfl rfl rfl (List.cons_ne_nil _ _) (Nat.le_of_ble_eq_true rfl) rfl rfl rfl⟩) ?_|refine zu (.inl ⟨rfl,zI hty rfl rfl⟩) ?_|refine zS ⟨by kernel_rfl,?_⟩|refine WL_p hty rfl rfl ?_|refine zh ?_|refine za ?_)
    refine⟨hlt,hnext a haj hca,(zaF 46 rfl).trans (zfY ⟨zz rfl rfl,zz rfl rfl,zz rfl rfl,zz rfl rfl,zz rfl rfl,⟨_,rfl,zO ?_ rfl⟩,trivial⟩ ⟨zw rfl rfl,zw rfl rfl,⟨⟨_,rfl,.of_eq ?_⟩,rfl⟩,trivial⟩)⟩
    ·exact congrArg (AV.int .i64) (zy (n:=1) (by omega) (by omega))
    ·show AB.arr 170 6 _ false=AB.arr 170 6 _ false
     rw[hk];rfl
  ·have hE:=hfin (by rw[zeb]at hc;omega)
   have hnil:args=[]:=List.length_eq_zero_iff.1 (by rw[zeb]at hc;omega)
   repeat'(first|refine WL_p hty rfl rfl ?_|refine zh ?_|refine zi ?_|refine za ?_|refine zxg ?_|refine zd rfl ?_|refine zbZ rfl ?_|refine zl ?_|refine zg ?_|refine zx rfl rfl ?_|refine zot rfl rfl rfl ?_|refine zj rfl rfl rfl rfl (fun _=>?_) (fun _=>?_))
   ·rw[zdq,if_neg (by rw[hE,if_pos (by omega)];decide),hE,if_pos (by omega)]
    exact zH rfl rfl (.refl _)
   ·rw[zdq,if_neg (by rw[hE,if_pos (by omega)];decide),hE,if_pos (by omega)]
    exact zH rfl rfl (.refl _)
   ·have hl:=(zkX t ⟨args.map gOf,under,false,0,0⟩ 0 0 hs hc3 (by rw[List.length_map];omega) ⟨by show 0≤under;omega,by show under≤65535;omega⟩ (by omega) (by omega) (by omega) (by omega)).weak (Wks.refl _) (xs:=[.ptr 0 0,aT t,.int .i64 0,.int .i64 0])
     (k:=.box [.lst 6 [] true,.int .i64 under,.bool false,.int .i64 0,.int .i64 0]) (.box (.cons (by rw[hnil];exact .nilF _ _ _) (Wks.refl _)))
    repeat'(first|refine WL_m rfl (zcd 20 rfl rfl rfl hl rfl rfl) ?_|refine WL_p hty rfl rfl ?_|refine zh ?_|refine zi ?_|refine za ?_|refine zg ?_)
    rw[zdq,if_pos (by rw[hE,if_neg (by omega)])]
    exact zbm (z6 20 rfl rfl) (zH rfl rfl (.refl _))
 |succ j=>
  have hdl:(rsG ((args.take (j+1)).map gOf)).length=j+1:=by rw[zjE,List.length_map,List.length_take];omega
  repeat'(first|refine zi ?_|refine za ?_)
  refine zj rfl rfl rfl rfl (fun hc=>?_) (fun hc=>?_)
  ·have hlt:j+1 <args.length:=by rw[zeb]at hc;omega
   obtain⟨a,haj,hmem⟩:=zA hlt
   have hks:=zK hmem
   have hkd:=a.depth_le
   have ra:=zac haj
   have hk:=key a haj
   repeat'(first|refine WL_m rfl (zm (i:=j+1) hty rfl rfl rfl ra rfl) ?_|refine zv 0 rfl (zb2 a (by omega)) rfl rfl rfl ?_|refine WL_p hty rfl rfl ?_|refine zh ?_|refine zi ?_|refine za ?_|refine zf ?_|refine zxg ?_|refine zd rfl ?_|refine zbZ rfl ?_|refine zg ?_|refine zj rfl rfl rfl rfl (fun _=>?_) (fun _=>?_))
   ·rename_i hca
    rw[zdq,if_neg (by rw[hbad a haj hca];exact hca),hbad a haj hca]
    exact zH rfl rfl (.refl _)
   ·rename_i hca
    have hca:checkT a=0:=by omega
    repeat'(first|refine zD (id:=11) zzs rfl (by kernel_rfl) ?_|refine zu (.inl ⟨rfl,zar 0 rfl (zgJ a (by omega)) rfl rfl rfl⟩) ?_|refine zu (.inl ⟨rfl,zar 0 rfl (zfO a (by omega)) rfl rfl rfl⟩) ?_|refine zu (.inl ⟨rfl,zar 0 rfl (zll a 0 (by omega) (by omega) (by omega)) rfl rfl rfl⟩) ?_|refine zu (.inl ⟨rfl,zuC hty 1046 rfl rfl rfl rfl rfl rfl rfl rfl (List.cons_ne_nil _ _) (by rw[hdl];show j+1+1≤4194304;omega) rfl rfl rfl⟩) ?_|refine zu (.inl ⟨rfl,zI hty rfl rfl⟩) ?_|refine zS ⟨by kernel_rfl,?_⟩|refine WL_p hty rfl rfl ?_|refine zh ?_|refine za ?_)
    refine⟨hlt,hnext a haj hca,(zbf [(46,1046)] rfl ⟨⟨_,rfl,.inl ⟨.refl _,rfl⟩⟩,⟨_,rfl,.inl ⟨.refl _,rfl⟩⟩,⟨_,rfl,.inl ⟨.refl _,rfl⟩⟩,⟨_,rfl,.inl ⟨.refl _,rfl⟩⟩,⟨_,rfl,.inl ⟨.refl _,rfl⟩⟩,⟨_,rfl,zO ?_ rfl⟩,trivial⟩ ⟨⟨⟨_,rfl,.refl _⟩,rfl⟩,⟨⟨_,rfl,.refl _⟩,rfl⟩,⟨⟨_,rfl,.of_eq ?_⟩,rfl⟩,trivial⟩)⟩
    ·exact congrArg (AV.int .i64) ((zy (by omega) (by omega)).trans (by omega))
    ·show AB.arr 170 6 _ false=AB.arr 170 6 _ false
     rw[hk];rfl
  ·have hE:=hfin (by rw[zeb]at hc;omega)
   have htk:args.take (j+1)=args:=List.take_of_length_le (by rw[zeb]at hc;omega)
   repeat'(first|refine WL_p hty rfl rfl ?_|refine zh ?_|refine zi ?_|refine za ?_|refine zxg ?_|refine zd rfl ?_|refine zbZ rfl ?_|refine zl ?_|refine zg ?_|refine zx rfl rfl ?_|refine zot rfl rfl rfl ?_|refine zj rfl rfl rfl rfl (fun _=>?_) (fun _=>?_))
   ·rw[zdq,if_neg (by rw[hE,if_pos (by omega)];decide),hE,if_pos (by omega)]
    exact zH rfl rfl (.refl _)
   ·rw[zdq,if_neg (by rw[hE,if_pos (by omega)];decide),hE,if_pos (by omega)]
    exact zH rfl rfl (.refl _)
   ·have hl:=(zkX t ⟨args.map gOf,under,false,0,0⟩ 0 0 hs hc3 (by rw[List.length_map];omega) ⟨by show 0≤under;omega,by show under≤65535;omega⟩ (by omega) (by omega) (by omega) (by omega)).weak (Wks.refl _) (xs:=[.ptr 0 0,aT t,.int .i64 0,.int .i64 0])
     (k:=.box [.lst 6 (rsG ((args.take (j+1)).map gOf)) false,.int .i64 under,.bool false,.int .i64 0,.int .i64 0]) (.box (.cons (.of_eq (by rw[htk])) (Wks.refl _)))
    repeat'(first|refine WL_m rfl (zcd 20 rfl rfl rfl hl rfl rfl) ?_|refine WL_p hty rfl rfl ?_|refine zh ?_|refine zi ?_|refine za ?_|refine zg ?_)
    rw[zdq,if_pos (by rw[hE,if_neg (by omega)])]
    exact zbm (z6 20 rfl rfl) (zH rfl rfl (.refl _))
end Go.Proofs.YtokfbblhjpfjkaaGreat
namespace Go.Proofs.YtokfbblhjpfjkaaGreat
open Go.Aw Go.RowKit
def zA9:List (Nat×List Nat):=[(0,[]),(1,[0]),(2,[0,1]),(3,[0,1,2]),(4,[]),(5,[0,1,2,3,4]),(6,[0,1,2,3,4,5]),(7,[0,1,2,3,4,5,6]),(8,[]),(9,[]),(10,[8,9]),(11,[0,1,2,3,4,5,6,7,8,9,10]),(12,[0,1,2,3,4,5,6,7,8,9,10,11])]
attribute [local irreducible] WL AC WD WE MStep OkOp
def zcl(j:Jb)(m:Nat)(n b:Int):Tm:=if 0≤zd0 j.args j.under n b then zl8 (j.args.getD (zd0 j.args j.under n b).toNat zG).t (j.under+b)else if j.under+b≤n then .mk 1 (IntKind.i64.wrap (n-(m:Nat))) []else .mk 1 n []
def instT(t:Tm)(args:List Tm)(under:Int):Tm×Int:=
 if zdx t args under≠0 then(zT,zdx t args under)else
 if(zeG t args under).scope=true then(zT,6)else if 6000 <(zeG t args under).size then(zT,4)else if 200 <(zeG t args under).depth then(zT,5)else
 (zeF (zcl (zeG t args under) args.length) 0 t,0)
set_option maxHeartbeats 4000000 in
theorem zo3(j:Jb)(l:List Tm)(n b:Int)(hl:j.args.length≤1048576)(hn:0≤n∧n≤65535)(hu:0≤j.under∧j.under≤65535)(hb:0≤b∧b≤4194304)(ha: ∀ (i:Nat) (g:Gr),j.args[i]? =some g→g.t.size≤1048576∧formedT g.t=true):
 FC Tryz.prog 159 ([.int .i64 n,.int .i64 b]++[.eptr [.eptr (cJ j) 0] 0,.eptr [.int .i64 j.under] 0,.eptr [sT l] 0]) (aT (zcl j l.length n b)):=by
 have hws:=zke j n b hl hn hu hb
 have w1:IntKind.i64.wrap (j.under+b)=j.under+b:=zy (by omega) (by omega)
 unfold zcl
 by_cases hw:0≤zd0 j.args j.under n b
 ·obtain⟨a,hga,_⟩:=zA (zhP hw)
  have ra:=zqr hga
  rw[if_pos hw,List.getD_eq_getElem?_getD,hga,Option.getD_some]
  have hmv:=zpp a.t (j.under+b) (ha _ _ hga).1 (ha _ _ hga).2
  rw[←w1]at hmv⊢
  refine zo hty Tryz.func159 rfl rfl rfl fun w0=>?_
  repeat'(first|exact absurd hw ‹_›|refine zv 0 rfl hws rfl rfl rfl ?_|refine zD (id:=3) zA9 rfl (by kernel_rfl) ?_|refine zu (.inl ⟨rfl,zaq hty rfl rfl rfl hw ra rfl⟩) ?_|refine zu (.inl ⟨rfl,zar 0 rfl hmv rfl rfl rfl⟩) ?_|refine zu (.inl ⟨rfl,zI hty rfl rfl⟩) ?_|refine zS ⟨by kernel_rfl,?_⟩|refine WL_p hty rfl rfl ?_|refine zh ?_|refine zi ?_|refine za ?_|refine zf ?_|refine zd rfl ?_|refine zg ?_|refine zj rfl rfl rfl rfl (fun _=>?_) (fun _=>?_))
  exact zH rfl rfl (.refl _)
 ·rw[if_neg hw]
  refine zo hty Tryz.func159 rfl rfl rfl fun w0=>?_
  repeat'(first|exact absurd (by assumption) hw|refine zv 0 rfl hws rfl rfl rfl ?_|refine zv 0 rfl (ziL _) rfl rfl rfl ?_|refine WL_p hty rfl rfl ?_|refine zh ?_|refine zi ?_|refine za ?_|refine zf ?_|refine zxg ?_|refine zd rfl ?_|refine zbZ rfl ?_|refine zg ?_|refine zj rfl rfl rfl rfl (fun _=>?_) (fun _=>?_))
  all_goals(rename_i hq;rw[w1]at hq)
  ·rw[if_pos hq]
   refine zH rfl rfl (.of_eq ?_)
   rw[zeb]
  ·rw[if_neg hq]
   exact zH rfl rfl (.refl _)
set_option maxHeartbeats 4000000 in
theorem zfW(t:Tm)(args:List Tm)(under:Int)(hs:t.size≤1048576)(ha:sizes args≤1048576):FC Tryz.prog 121 [aT t,sT args,.int .i64 under] (.tup [aT (instT t args under).1,.int .i64 (instT t args under).2]):=by
 have hop:=zp5 t args under hs ha
 have hlen:=zM args
 by_cases he:zdx t args under=0
 ·rw[zdq,if_pos he]at hop
  have hct:checkT t=0:=by
   unfold zdx at he
   split at he
   ·rename_i h;exact absurd he h
   ·rename_i h;omega
  obtain⟨hc1,hc2,hc3⟩:=zcH hct
  have hoe:(match args.find? (fun a=>decide (checkT a≠0))with
   |some a=>checkT a
   |none=>if under <0∨65535 <under then 1 else 0)=0:=by unfold zdx at he;rw[if_neg (by omega)]at he;exact he
  have hfn:args.find? (fun a=>decide (checkT a≠0))=none:=by
   cases q:args.find? (fun a=>decide (checkT a≠0))with
   |none=>rfl
   |some a=>
    rw[q]at hoe
    have:=List.find?_some q
    simp at this
    exact absurd hoe this
  have hund:0≤under∧under≤65535:=by
   rw[hfn]at hoe
   simp only at hoe
   split at hoe
   ·omega
   ·omega
  obtain⟨k1,k2⟩:=zeO t ⟨args.map gOf,under,false,0,0⟩ 0 0
  have hja:(zeG t args under).args=args.map gOf:=k1
  have hju:(zeG t args under).under=under:=k2
  have h1: ∀ n b,0≤n→n≤65535→0≤b→b≤4194304→FC Tryz.prog 159 ([.int .i64 n,.int .i64 b]++[.eptr [.eptr (cJ (zeG t args under)) 0] 0,.eptr [.int .i64 under] 0,.eptr [sT args] 0]) (aT (zcl (zeG t args under) args.length n b)):=by
   intro n b g1 g2 g3 g4
   have:=zo3 (zeG t args under) args n b (by rw[hja,List.length_map];omega) ⟨g1,g2⟩ (by rw[hju];exact hund) ⟨g3,g4⟩ (fun i g hg=>by
    rw[hja,List.getElem?_map]at hg
    obtain⟨a,hga,rfl⟩:=Option.map_eq_some_iff.1 hg
    have hm:=List.mem_of_getElem? hga
    have:=List.find?_eq_none.1 hfn a hm
    simp at this
    exact⟨by have:=zK hm;show a.size≤_;omega,(zcH this).2.2⟩)
   rw[hju]at this
   exact this
  have hm:=znF 159 [.eptr [.eptr (cJ (zeG t args under)) 0] 0,.eptr [.int .i64 under] 0,.eptr [sT args] 0] rfl _ 4194304 (by omega) h1 t 0 hs hc3 (by omega) (by omega)
  have hi:instT t args under=if(zeG t args under).scope=true then(zT,6)else if 6000 <(zeG t args under).size then(zT,4)else if 200 <(zeG t args under).depth then(zT,5)else(zeF (zcl (zeG t args under) args.length) 0 t,0):=by
   unfold instT;rw[if_neg (by omega)]
  refine zo hty Tryz.func121 rfl rfl rfl fun w0=>?_
  repeat'(first|exact absurd rfl ‹_›|refine zv 0 rfl hop rfl rfl rfl ?_|(refine zbd (z6 8 rfl rfl) ?_;refine zbd (z6 5 rfl rfl) ?_;refine zbd (z6 4 rfl rfl) ?_;refine WL_m rfl (zbo rfl rfl rfl) ?_)|refine zv 0 rfl hm rfl rfl rfl ?_|refine WL_p hty rfl rfl ?_|refine zh ?_|refine zi ?_|refine za ?_|refine zf ?_|refine zxg ?_|refine zd rfl ?_|refine zbZ rfl ?_|refine zg ?_|refine zj rfl rfl rfl rfl (fun _=>?_) (fun _=>?_)|refine zDp rfl (fun _=>?_) (fun _=>?_))
  ·rw[hi,if_pos (by assumption)]
   refine zH rfl rfl (.tup (.cons (.agg ?_) (.cons (.refl _) .nil)))
   repeat'(first|exact Wks.nil|refine Wks.cons (Wk.refl _) ?_|refine Wks.cons (Wk.full _ _ _) ?_)
  ·rw[hi,if_neg (by simp[*]),if_pos (by assumption)]
   refine zH rfl rfl (.tup (.cons (.agg ?_) (.cons (.refl _) .nil)))
   repeat'(first|exact Wks.nil|refine Wks.cons (Wk.refl _) ?_|refine Wks.cons (Wk.full _ _ _) ?_)
  ·rw[hi,if_neg (by simp[*]),if_neg (by assumption),if_pos (by assumption)]
   refine zH rfl rfl (.tup (.cons (.agg ?_) (.cons (.refl _) .nil)))
   repeat'(first|exact Wks.nil|refine Wks.cons (Wk.refl _) ?_|refine Wks.cons (Wk.full _ _ _) ?_)
  ·rw[hi,if_neg (by simp[*]),if_neg (by assumption),if_neg (by assumption)]
   exact zH rfl rfl (.refl _)
 ·rw[zdq,if_neg he]at hop
  have hi:instT t args under=(zT,zdx t args under):=by unfold instT;rw[if_pos he]
  refine zo hty Tryz.func121 rfl rfl rfl fun w0=>?_
  repeat'(first|exact absurd he ‹_›|refine zv 0 rfl hop rfl rfl rfl ?_|refine WL_p hty rfl rfl ?_|refine zh ?_|refine zi ?_|refine za ?_|refine zf ?_|refine zd rfl ?_|refine zg ?_|refine zj rfl rfl rfl rfl (fun _=>?_) (fun _=>?_))
  rw[hi]
  refine zH rfl rfl (.tup (.cons (.agg ?_) (.cons (.refl _) .nil)))
  repeat'(first|exact Wks.nil|refine Wks.cons (Wk.refl _) ?_|refine Wks.cons (Wk.full _ _ _) ?_)
end Go.Proofs.YtokfbblhjpfjkaaGreat
namespace Go.Proofs.YtokfbblhjpfjkaaGreat
open Go.Aw Go.RowKit
def zzr:List (Nat×List Nat):=[(0,[]),(1,[]),(2,[100000]),(3,[100000]),(4,[]),(5,[]),(6,[4,5]),(7,[4,5,6]),(8,[]),(9,[]),(10,[8,9]),(11,[8,9,10]),(12,[0,1,4,5,6,7,8,9,10,11]),(13,[0,1,4,5,6,7,8,9,10,11,12]),(14,[0,1,2,3,4,5,6,7,8,9,10,11,12,13]),(15,[0,1,2,3,4,5,6,7,8,9,10,11,12,13,14])]
attribute [local irreducible] WL AC WD WE MStep OkOp
def zef{α:Type}(l:List α):Nat→List α
 |0=>l
 |i+1=>match(zef l i)[i]?,(zef l i)[l.length-1-i]? with
  |some a,some b=>((zef l i).set i b).set (l.length-1-i) a
  |_,_=>zef l i
theorem zdh{α:Type}(l:List α): ∀ i,(zef l i).length=l.length
 |0=>rfl
 |i+1=>by
  simp only[zef]
  split
  ·rw[List.length_set,List.length_set,zdh]
  ·exact zdh l i
theorem znZ{α:Type}(l:List α): ∀ i,2*i≤l.length→ ∀ q,q <l.length→(zef l i)[q]? =if q <i∨l.length-i≤q then l[l.length-1-q]? else l[q]?
 |0,_,q,hq=>by rw[if_neg (by omega)];rfl
 |i+1,h,q,hq=>by
  have ih:=znZ l i (by omega)
  have hl:=zdh l i
  have h1:=ih i (by omega)
  have h2:=ih (l.length-1-i) (by omega)
  rw[if_neg (by omega)]at h1 h2
  have e1:l[i]? =some l[i]:=List.getElem?_eq_getElem (by omega)
  have e2:l[l.length-1-i]? =some l[l.length-1-i]:=List.getElem?_eq_getElem (by omega)
  rw[e1]at h1
  rw[e2]at h2
  simp only[zef,h1,h2]
  rw[List.getElem?_set,List.getElem?_set,List.length_set,hl]
  by_cases c1:l.length-1-i=q
  ·rw[if_pos c1,if_pos (by omega),if_pos (by omega), ←e1]
   congr 1;omega
  ·rw[if_neg c1]
   by_cases c2:i=q
   ·rw[if_pos c2,if_pos (by omega),if_pos (by omega), ←e2]
    congr 1;omega
   ·rw[if_neg c2,ih q hq]
    by_cases c3:q <i∨l.length-i≤q
    ·rw[if_pos c3,if_pos (by omega)]
    ·rw[if_neg c3,if_neg (by omega)]
theorem zts{α:Type}{l:List α}{i:Nat}(h:2*i≤l.length)(h2:l.length≤2*i+1):zef l i=l.reverse:=by
 refine List.ext_getElem? fun q=>?_
 rcases Nat.lt_or_ge q l.length with hq|hq
 ·rw[znZ l i h q hq,List.getElem?_reverse hq]
  split
  ·rfl
  ·congr 1;omega
 ·rw[List.getElem?_eq_none (by rw[zdh];exact hq),List.getElem?_eq_none (by rw[List.length_reverse];exact hq)]
theorem zrD{α:Type}{l:List α}{i:Nat}{a b:α}(ha:(zef l i)[i]? =some a)(hb:(zef l i)[l.length-1-i]? =some b):zef l (i+1)=((zef l i).set i b).set (l.length-1-i) a:=by simp only[zef,ha,hb]
theorem zqY(l:List Tm)(i:Nat)(a:Tm):(rsT l).set i (cT a)=rsT (l.set i a):=by rw[zbq,zbq,List.map_set, ←zfl]
theorem znL:FC Tryz.prog 209 [.lst 0 [] true] (.tup []):=by
 refine zo hty Tryz.func209 rfl rfl rfl fun w0=>?_
 repeat'(first|refine WL_p hty rfl rfl ?_|refine zh ?_|refine zi ?_|refine za ?_|refine zf ?_)
 refine zW 0 (fun _=>True) (fun i=>⟨envOf [(2,.int .i64 0),(3,.int .i64 (-1))],bkOf []⟩) (zfY ⟨zz rfl rfl,⟨_,rfl,zO ?_ rfl⟩,trivial⟩ trivial) trivial ?_
 ·exact congrArg (AV.int .i64) (zy (n:=0-1) (by omega) (by omega))
 intro i hi _
 repeat'(first|refine WL_p hty rfl rfl ?_|refine zi ?_|refine za ?_)
 refine zj rfl rfl rfl rfl (fun hc=>by omega) (fun hc=>?_)
 repeat'(first|refine zh ?_|refine zbZ rfl ?_|refine zl ?_)
 exact⟨.inr rfl,_,.refl _,_,rfl,.inl ⟨_,rfl,.refl _⟩⟩
set_option maxHeartbeats 4000000 in
theorem zmr(l:List Tm)(hl:l.length≤1048576):MC Tryz.prog 209 [.arr 0] (.arr 25 3 (rsT l) true) (.tup []) (.arr 25 3 (rsT l.reverse) true):=by
 refine zcK hty Tryz.func209 rfl rfl rfl rfl rfl fun w0 B=>?_
 repeat'(first|refine WL_p hty rfl rfl ?_|refine zh ?_|refine zi ?_|refine za ?_|refine zf ?_)
 refine zW (l.length/2) (fun _=>True) (fun i=>⟨envOf [(0,.arr 0),(2,.int .i64 (i:Nat)),(3,.int .i64 ((l.length:Int)-1-(i:Nat)))],bkOf [(0,.ar (some B) 25 3 (rsT (zef l i)) true)]⟩)
  (zfY ⟨zz rfl rfl,zz rfl rfl,⟨_,rfl,zO ?_ rfl⟩,trivial⟩ ⟨zw rfl rfl,trivial⟩) trivial ?_
 ·refine congrArg (AV.int .i64) ?_
  rw[zeb]
  exact(zy (by omega) (by omega)).trans (by omega)
 intro i hi _
 repeat'(first|refine WL_p hty rfl rfl ?_|refine zi ?_|refine za ?_)
 refine zj rfl rfl rfl rfl (fun hc=>?_) (fun hc=>?_)
 ·have hlt:i <l.length/2:=by omega
  have hrl:(zef l i).length=l.length:=zdh l i
  obtain⟨a,ha,_⟩:=zA (show i <(zef l i).length by omega)
  obtain⟨b,hb,_⟩:=zA (show l.length-1-i <(zef l i).length by omega)
  have hn:((l.length:Int)-1-(i:Nat)).toNat=l.length-1-i:=by omega
  have ra:=zac ha
  have rb:(rsT (zef l i))[((l.length:Int)-1-(i:Nat)).toNat]? =some (cT b):=by rw[hn];exact zac hb
  have rb2:((rsT (zef l i)).set i (cT b))[((l.length:Int)-1-(i:Nat)).toNat]? =some (cT b):=by
   rw[hn,List.getElem?_set,if_neg (by omega)];exact zac hb
  repeat'(first|refine zD (id:=3) zzr rfl (by kernel_rfl) ?_|refine zu (.inl ⟨rfl,zgs hty rfl rfl rfl rfl rfl (Int.natCast_nonneg _) (by simp[zeb];omega) rfl⟩) ?_|refine zu (.inl ⟨rfl,zgs hty rfl rfl rfl rfl rfl (by omega) (by simp[zeb];omega) rfl⟩) ?_|refine zu (.inl ⟨rfl,zmC hty rfl rfl rfl rfl rb rfl rfl rfl⟩) ?_|refine zu (.inl ⟨rfl,zmC hty rfl rfl rfl rfl ra rfl rfl rfl⟩) ?_|refine zu (.inl ⟨rfl,zdK hty rfl rfl rfl rfl ra rfl rfl rfl rfl rfl⟩) ?_|refine zu (.inl ⟨rfl,zdK hty rfl rfl rfl rfl rb2 rfl rfl rfl rfl rfl⟩) ?_|refine zu (.inl ⟨rfl,zI hty rfl rfl⟩) ?_|refine zS ⟨by kernel_rfl,?_⟩|refine WL_p hty rfl rfl ?_|refine zh ?_|refine zi ?_|refine za ?_|refine zf ?_|refine zxg ?_|refine zd rfl ?_)
  refine⟨hlt,trivial,(zfY ⟨zz rfl rfl,⟨_,rfl,zO ?_ rfl⟩,⟨_,rfl,zO ?_ rfl⟩,trivial⟩ ⟨⟨⟨_,rfl,.of_eq ?_⟩,rfl⟩,trivial⟩)⟩
  ·exact congrArg (AV.int .i64) ((zy (by omega) (by omega)).trans (by omega))
  ·exact congrArg (AV.int .i64) ((zy (by omega) (by omega)).trans (by omega))
  ·refine congrArg (fun r=>AB.ar (some B) 25 3 r true) ?_
   show((rsT (zef l i)).set i (cT b)).set _ (cT a)=_
   rw[hn,zqY,zqY, ←zrD ha hb]
 ·repeat'(first|refine zh ?_|refine zbZ rfl ?_|refine zl ?_)
  refine zh1 0 rfl rfl rfl rfl rfl rfl (.of_eq ?_)
  rw[zts (by omega) (by omega)]
def zbC(t:Tm)(k:Int):Bool:=decide (t.kind=k)&&decide (t.kids.length=2)
theorem zgQ(t:Tm)(k:Int):FC Tryz.prog 208 [aT t,.int .i64 k] (.bool (zbC t k)):=by
 refine zo hty Tryz.func208 rfl rfl rfl fun w0=>?_
 repeat'(first|refine WL_p hty rfl rfl ?_|refine zh ?_|refine zi ?_|refine za ?_|refine zg ?_|refine zx rfl rfl ?_|refine zq rfl rfl rfl ?_|refine zb rfl ?_|refine zj rfl rfl rfl rfl (fun _=>?_) (fun _=>?_))
 all_goals(try rw[zeb]at*)
 all_goals simp_all [zbC] <;>omega
def spN:Nat→Tm→List Tm→Tm×List Tm
 |0,t,acc=>(t,acc)
 |n+1,t,acc=>match zbC t 6,t.kids with
  |true,[f,a]=>spN n f (acc++[a])
  |_,_=>(t,acc)
def zF(t:Tm):Tm×List Tm:=((spN t.size t []).1,(spN t.size t []).2.reverse)
theorem zc5{n:Nat}{t:Tm}{acc:List Tm}(h:zbC t 6=false):spN n t acc=(t,acc):=by
 cases n with
 |zero=>rfl
 |succ n=>simp only[spN,h]
theorem zb0{t:Tm}{k:Int}(h:zbC t k=true): ∃ f a,t.kids=[f,a]:=by
 simp only[zbC,Bool.and_eq_true,decide_eq_true_eq]at h
 obtain⟨_,h2⟩:=h
 match hk:t.kids,h2 with
 |[f,a],_=>exact⟨f,a,rfl⟩
theorem zcn{n:Nat}{t:Tm}{acc:List Tm}{f a:Tm}(h:zbC t 6=true)(hk:t.kids=[f,a]):spN (n+1) t acc=spN n f (acc++[a]):=by
 simp only[spN,h,hk]
theorem zjU: ∀ (n m:Nat) (t:Tm) (acc:List Tm),t.size≤n→t.size≤m→spN n t acc=spN m t acc
 |0,m,t,acc,h,_=>by have:=t.size_pos;omega
 |n+1,0,t,acc,_,h=>by have:=t.size_pos;omega
 |n+1,m+1,t,acc,h1,h2=>by
  by_cases h:zbC t 6=true
  ·obtain⟨f,a,hk⟩:=zb0 h
   have hs:=t.size_eq
   rw[hk]at hs
   simp only[sizes]at hs
   rw[zcn h hk,zcn h hk]
   exact zjU n m f _ (by omega) (by omega)
  ·have h:zbC t 6=false:=by simpa using h
   rw[zc5 h,zc5 h]
def mkS:Tm×List Tm→AS
 |(t,[])=>⟨envOf [(1,.ptr 1 0),(2,.ptr 2 0),(4,.lst 0 [] true)],bkOf [(1,.box (cT t)),(2,.box [.int .i64 0,.int .i64 0,.lst 3 [] true])]⟩
 |(t,a::r)=>⟨envOf [(1,.ptr 1 0),(2,.ptr 2 0),(4,.arr 13)],bkOf [(1,.box (cT t)),(2,.box [.int .i64 0,.int .i64 0,.lst 3 [] true]),(13,.arr 25 3 (rsT (a::r)) true)]⟩
set_option maxHeartbeats 4000000 in
theorem zcR(t:Tm)(hs:t.size≤1048576):FC Tryz.prog 162 [aT t] (.tup [aT (zF t).1,sT (zF t).2]):=by
 refine zo hty Tryz.func162 rfl rfl rfl fun w0=>?_
 repeat'(first|refine WL_p hty rfl rfl ?_|refine zh ?_|refine zi ?_|refine za ?_|refine zf ?_)
 refine zqC mkS (fun p=>p.2.length+p.1.size≤t.size∧spN p.1.size p.1 p.2=spN t.size t []) (fun p=>p.1.size) (t,[]) (zfY ⟨zz rfl rfl,zz rfl rfl,zz rfl rfl,trivial⟩ ⟨zw rfl rfl,zw rfl rfl,trivial⟩) ⟨by simp,rfl⟩ ?_
 rintro ⟨u,acc⟩ ⟨hI,hJ⟩
 have hI:acc.length+u.size≤t.size:=hI
 have hJ:spN u.size u acc=spN t.size t []:=hJ
 have hu:=u.size_eq
 by_cases h2:zbC u 6=true
 ·obtain⟨f,a,hk⟩:=zb0 h2
  have r1:(rsT u.kids)[1]? =some (cT a):=by rw[hk,rs2];rfl
  have r0:(rsT u.kids)[0]? =some (cT f):=by rw[hk,rs2];rfl
  have hsz:u.size=1+(f.size+a.size):=by rw[hu,hk];simp[sizes]
  have hap:=a.size_pos
  have hfp:=f.size_pos
  have hJ2:spN f.size f (acc++[a])=spN t.size t []:=by
   rw[←hJ,hsz,show 1+(f.size+a.size)=(f.size+a.size)+1 by omega,zcn h2 hk]
   exact zjU _ _ _ _ (by omega) (by omega)
  cases acc with
  |nil=>
   repeat'(first|exact absurd h2 (by rw[‹zbC u 6=false›];decide)|refine zL rfl (zgQ u 6) rfl (fun _=>?_) (fun _=>?_)|refine WL_m rfl (zm (i:=1) hty rfl rfl rfl r1 rfl) ?_|refine WL_m rfl (zm (i:=0) hty rfl rfl rfl r0 rfl) ?_|refine WL_m rfl (ze7 hty 13 rfl rfl rfl rfl rfl rfl rfl (List.cons_ne_nil _ _) (Nat.le_of_ble_eq_true rfl) rfl rfl rfl) ?_|refine WL_p hty rfl rfl ?_|refine zh ?_|refine zi ?_|refine za ?_|refine zf ?_|refine zxg ?_|refine zd rfl ?_)
   refine⟨(f,[a]),⟨by show 1+f.size≤t.size;simp only[List.length_nil]at hI;omega,hJ2⟩,by show f.size <u.size;omega,?_⟩
   show Less _ (mkS (f,[a]))
   refine(zfY ⟨zz rfl rfl,zz rfl rfl,zz rfl rfl,trivial⟩ ⟨zw rfl rfl,zw rfl rfl,⟨⟨_,rfl,.of_eq ?_⟩,rfl⟩,trivial⟩)
   rw[rs1];rfl
  |cons a0 r0=>
   have hroom:(rsT (a0::r0)).length+1≤4194304:=by rw[zeb];simp only[List.length_cons]at hI⊢;omega
   repeat'(first|exact absurd h2 (by rw[‹zbC u 6=false›];decide)|refine zL rfl (zgQ u 6) rfl (fun _=>?_) (fun _=>?_)|refine WL_m rfl (zm (i:=1) hty rfl rfl rfl r1 rfl) ?_|refine WL_m rfl (zgH hty 1013 rfl rfl rfl rfl rfl rfl rfl rfl (List.cons_ne_nil _ _) hroom rfl rfl rfl) ?_|refine WL_p hty rfl rfl ?_|refine zh ?_|refine zi ?_|refine za ?_|refine zf ?_|refine zxg ?_|refine zd rfl ?_|refine WL_m rfl (zm hty rfl rfl rfl (by assumption) rfl) ?_)
   refine⟨(f,a0::r0++[a]),⟨by show(a0::r0++[a]).length+f.size≤t.size;simp only[List.length_cons,List.length_append,List.length_nil]at hI⊢;omega,hJ2⟩,by show f.size <u.size;omega,?_⟩
   show Less _ (mkS (f,a0::(r0++[a])))
   refine(zbf [(13,1013)] rfl ⟨⟨_,rfl,.inl ⟨.refl _,rfl⟩⟩,⟨_,rfl,.inl ⟨.refl _,rfl⟩⟩,⟨_,rfl,.inl ⟨.refl _,rfl⟩⟩,trivial⟩ ⟨⟨⟨_,rfl,.refl _⟩,rfl⟩,⟨⟨_,rfl,.refl _⟩,rfl⟩,⟨⟨_,rfl,.of_eq ?_⟩,rfl⟩,trivial⟩)
   show AB.arr 25 3 _ true=AB.arr 25 3 _ true
   rw[show a0::(r0++[a])=(a0::r0)++[a]from rfl,zas,rs1]
 ·have h2:zbC u 6=false:=by simpa using h2
  rw[zc5 h2]at hJ
  have hsp:zF t=(u,acc.reverse):=by unfold zF;rw[←hJ]
  rw[hsp]
  cases acc with
  |nil=>
   repeat'(first|exact absurd h2 (by rw[‹zbC u 6=true›];decide)|refine zL rfl (zgQ u 6) rfl (fun _=>?_) (fun _=>?_)|refine zv 0 rfl znL rfl rfl rfl ?_|refine WL_p hty rfl rfl ?_|refine zh ?_|refine zi ?_|refine za ?_|refine zbZ rfl ?_|refine zl ?_|refine zg ?_)
   exact zH rfl rfl (.tup (.cons (.refl _) (.cons (.nilF _ _ _) .nil)))
  |cons a0 r0=>
   have hrv:=zmr (a0::r0) (by omega)
   repeat'(first|exact absurd h2 (by rw[‹zbC u 6=true›];decide)|refine zL rfl (zgQ u 6) rfl (fun _=>?_) (fun _=>?_)|refine WL_m rfl (zcd 13 rfl rfl rfl hrv rfl rfl) ?_|refine WL_p hty rfl rfl ?_|refine zh ?_|refine zi ?_|refine za ?_|refine zbZ rfl ?_|refine zl ?_|refine zg ?_)
   exact zbm (zaF 13 rfl) (zH rfl rfl (.refl _))
end Go.Proofs.YtokfbblhjpfjkaaGreat
namespace Go.Proofs.YtokfbblhjpfjkaaGreat
open Go.Aw Go.RowKit
mutual
theorem zh2(F:Int→Int→Tm)(hF: ∀ n b,(F n b).size=1): ∀ (t:Tm) (b:Int),(t.kind=1→t.kids=[])→(formedT t=true)→(zeF F b t).size=t.size
 | .mk k n l,b,_,hfm=>by
   rw[zeF]
   split
   ·rename_i hk
    subst hk
    have:l=[]:=by
     have:=za9 (.mk 1 n l)
     rw[hfm]at this
     have:=this.symm
     simp only[Bool.and_eq_true,decide_eq_true_eq,Tm.kids,Tm.kind,kidsR]at this
     have h1:=this.1.1
     simp at h1
     exact h1
    subst this
    rw[hF];simp[Tm.size,sizes]
   ·simp only[Tm.size]
    rw[zjv F hF k l b 0 (fun u hu=>zao (t:=.mk k n l) hfm hu)]
theorem zjv(F:Int→Int→Tm)(hF: ∀ n b,(F n b).size=1): ∀ (k:Int) (l:List Tm) (b i:Int),(∀ u,u∈l→formedT u=true)→sizes (mapTs F k b i l)=sizes l
 |_,[],_,_,_=>by simp[mapTs]
 |k,t::l,b,i,h=>by
  simp only[mapTs,sizes]
  rw[zjv F hF k l b (i+1) (fun u hu=>h u (List.mem_cons_of_mem _ hu)),zh2 F hF t (b+zU k i) (fun hk=>by
   have:=za9 t
   rw[h t List.mem_cons_self,hk]at this
   have:=this.symm
   simp only[Bool.and_eq_true,decide_eq_true_eq,kidsR]at this
   have h1:=this.1.1
   simp at h1
   exact h1) (h t List.mem_cons_self)]
end
theorem zoV{t:Tm}{c:Int}(h:formedT t=true):(zl8 t c).size=t.size:=by
 unfold zl8
 exact zh2 _ (fun n b=>by unfold zth;simp[Tm.size,sizes]) t 0 (fun hk=>by
  have:=za9 t
  rw[h,hk]at this
  have:=this.symm
  simp only[Bool.and_eq_true,decide_eq_true_eq,kidsR]at this
  have h1:=this.1.1
  simp at h1
  exact h1) h
theorem zlP{x:Int}(h:x≤2000000000000)(h0:0≤x):zsK (IntKind.i64.wrap x)=min x 1099511627776:=by
 rw[zy (by omega) (by omega)];unfold zsK;split <;>omega
theorem zpW(j:Jb)(m:Nat)(n b d:Int)(h0:0≤j.size∧j.size≤1099511627776)(hg: ∀ g,g∈j.args→g.size=(g.t.size:Nat)∧g.t.size≤1048576∧formedT g.t=true):
 (lookV j n b d).size=min (j.size+((zcl j m n b).size:Nat)) 1099511627776:=by
 unfold lookV zcl
 split
 ·rename_i hw
  obtain⟨a,ha,hm⟩:=zA (zhP hw)
  have:=hg a hm
  rw[List.getD_eq_getElem?_getD,ha,Option.getD_some,zoV this.2.2]
  simp only[zuZ,this.1]
  exact zlP (by omega) (by omega)
 ·have e1: ∀ x:Int,(Tm.mk 1 x []).size=1:=fun x=>by simp[Tm.size,sizes]
  have:(if j.under+b≤n then Tm.mk 1 (IntKind.i64.wrap (n-(m:Nat))) []else Tm.mk 1 n []).size=1:=by split <;>exact e1 _
  rw[this]
  simp only[nodeJ]
  exact zlP (by omega) (by omega)
theorem zfE{j j':Jb}(h1:j'.args=j.args)(h2:j'.under=j.under)(m:Nat):zcl j' m=zcl j m:=by
 funext n b;unfold zcl;rw[h1,h2]
mutual
theorem zj9(m:Nat): ∀ (t:Tm) (j:Jb) (b d:Int),0≤j.size∧j.size≤1099511627776→(∀ g,g∈j.args→g.size=(g.t.size:Nat)∧g.t.size≤1048576∧formedT g.t=true)→
 (zdw t j b d).size=min (j.size+((zeF (zcl j m) b t).size:Nat)) 1099511627776
 | .mk k n l,j,b,d,h0,hg=>by
   rw[zdw,zeF]
   split
   ·exact zpW j m n b d h0 hg
   ·have hn:(nodeJ j d).size=min (j.size+1) 1099511627776:=zlP (by omega) (by omega)
    have:=zic m k l 0 (nodeJ j d) b d (by omega) hg
    rw[this,hn,zfE (show(nodeJ j d).args=j.args from rfl) (show(nodeJ j d).under=j.under from rfl)]
    simp only[Tm.size]
    omega
theorem zic(m:Nat): ∀ (k:Int) (l:List Tm) (i:Int) (j:Jb) (b d:Int),0≤j.size∧j.size≤1099511627776→(∀ g,g∈j.args→g.size=(g.t.size:Nat)∧g.t.size≤1048576∧formedT g.t=true)→
 (zbY k i l j b d).size=min (j.size+(sizes (mapTs (zcl j m) k b i l):Nat)) 1099511627776
 |k,[],i,j,b,d,h0,_=>by rw[zbY];simp only[mapTs,sizes];omega
 |k,t::l,i,j,b,d,h0,hg=>by
  have h1:=zj9 m t j (b+zU k i) (d+1) h0 hg
  obtain⟨k1,k2⟩:=zeO t j (b+zU k i) (d+1)
  have h2:=zic m k l (i+1) (zdw t j (b+zU k i) (d+1)) b d (by omega) (by rw[k1];exact hg)
  rw[zbY,h2,h1,zfE k1 k2]
  simp only[mapTs,sizes]
  omega
end
theorem zeB(t:Tm)(args:List Tm)(under:Int):(instT t args under).1.size≤6000:=by
 unfold instT
 split
 ·simp[zT,Tm.size,sizes]
 ·rename_i he
  have he:zdx t args under=0:=by omega
  split
  ·simp[zT,Tm.size,sizes]
  ·split
   ·simp[zT,Tm.size,sizes]
   ·split
    ·simp[zT,Tm.size,sizes]
    ·rename_i h6 _
     have hfn: ∀ a,a∈args→checkT a=0:=by
      intro a ha
      unfold zdx at he
      split at he
      ·omega
      ·split at he
       ·rename_i q
        have:=List.find?_some q
        simp at this
        omega
       ·rename_i q
        have:=List.find?_eq_none.1 q a ha
        simpa using this
     have hj0: ∀ g,g∈(⟨args.map gOf,under,false,0,0⟩:Jb).args→g.size=(g.t.size:Nat)∧g.t.size≤1048576∧formedT g.t=true:=by
      intro g hg
      obtain⟨a,ha,rfl⟩:=List.mem_map.1 hg
      have:=zcH (hfn a ha)
      exact⟨rfl,by show a.size≤_;omega,this.2.2⟩
     have:=zj9 args.length t ⟨args.map gOf,under,false,0,0⟩ 0 0 ⟨Int.le_refl 0,by show(0:Int)≤1099511627776;omega⟩ hj0
     obtain⟨k1,k2⟩:=zeO t ⟨args.map gOf,under,false,0,0⟩ 0 0
     have hkeep:zcl (zeG t args under) args.length=zcl ⟨args.map gOf,under,false,0,0⟩ args.length:=zfE k1 k2 _
     have hs:(zeG t args under).size=min ((0:Int)+((zeF (zcl (zeG t args under) args.length) 0 t).size:Nat)) 1099511627776:=by
      rw[hkeep];exact this
     show(zeF (zcl (zeG t args under) args.length) 0 t).size≤6000
     omega
end Go.Proofs.YtokfbblhjpfjkaaGreat
