/- What a term's root is reduced to, over no constants.; What a term's root is redu -/
import Derived.Test.YtokfbblhjpfjkaaGreatGD
import Derived.Test.YtokfbblhjpfjkaaGreatGC
set_option linter.unusedSimpArgs false
set_option linter.unusedVariables false
namespace Go.Proofs.YtokfbblhjpfjkaaGreat
open Go.Aw Go.RowKit
def zBz:List (Nat×List Nat):=[(0,[]),(1,[0]),(2,[0,1]),(3,[0,1,2]),(4,[]),(5,[4]),(6,[4,5]),(7,[0,1,2,3,4,5,6]),(8,[0,1,2,3,4,5,6,7]),(9,[0,1,2,3,4,5,6,7]),(10,[0,1,2,3,4,5,6,7,8,9]),(11,[0,1,2,3,4,5,6,7,8,9,10])]
attribute [local irreducible] WL AC WD WE MStep OkOp
def ofE(env:List En)(t:Tm):Option En:=if t.kind=3∧0≤t.num then env[t.num.toNat]? else none
theorem zhv(env:List En)(t:Tm)(hl:env.length≤1048576)(hn:t.kind=3→0≤t.num):FC Tryz.prog 125 [sE env,aT t] (match ofE env t with|some e=>.tup [aE e,.bool true]|none=>.tup [aE zE,.bool false]):=by
 by_cases hk:t.kind=3
 ·have h0:=hn hk
  have he:ofE env t=env[t.num.toNat]? :=by unfold ofE;rw[if_pos ⟨hk,h0⟩]
  by_cases hlt:t.num.toNat <env.length
  ·obtain⟨e,hge,_⟩:=zA hlt
   have re:=zeM hge
   rw[he,hge]
   refine zo hty Tryz.func125 rfl rfl rfl fun w0=>?_
   repeat'(first|exact absurd hk ‹_›|exact absurd (show t.num <env.length by omega) (by rw[←zaW];omega)|refine WL_m rfl (zaq hty rfl rfl rfl h0 re rfl) ?_|refine WL_p hty rfl rfl ?_|refine zh ?_|refine zi ?_|refine za ?_|refine zxg ?_|refine zbZ rfl ?_|refine zg ?_|refine zx rfl rfl ?_|refine zj rfl rfl rfl rfl (fun _=>?_) (fun _=>?_))
   exact zH rfl rfl (.refl _)
  ·rw[he,List.getElem?_eq_none (by omega)]
   refine zo hty Tryz.func125 rfl rfl rfl fun w0=>?_
   repeat'(first|exact absurd hk ‹_›|exact absurd (show(env.length:Int)≤t.num by omega) (by rw[←zaW];omega)|refine WL_p hty rfl rfl ?_|refine zh ?_|refine zi ?_|refine za ?_|refine zd rfl ?_|refine zg ?_|refine zx rfl rfl ?_|refine zj rfl rfl rfl rfl (fun _=>?_) (fun _=>?_))
   refine zH rfl rfl (.tup (.cons (.agg ?_) (.cons (.refl _) .nil)))
   repeat'(first|exact Wks.nil|refine Wks.cons (Wk.refl _) ?_|refine Wks.cons (Wk.full _ _ _) ?_)
 ·have he:ofE env t=none:=by unfold ofE;rw[if_neg (fun h=>hk h.1)]
  rw[he]
  refine zo hty Tryz.func125 rfl rfl rfl fun w0=>?_
  repeat'(first|exact absurd (show t.kind≠3 from hk) ‹_›|refine WL_p hty rfl rfl ?_|refine zh ?_|refine zi ?_|refine za ?_|refine zd rfl ?_|refine zg ?_|refine zot rfl rfl rfl ?_|refine zj rfl rfl rfl rfl (fun _=>?_) (fun _=>?_))
  refine zH rfl rfl (.tup (.cons (.agg ?_) (.cons (.refl _) .nil)))
  repeat'(first|exact Wks.nil|refine Wks.cons (Wk.refl _) ?_|refine Wks.cons (Wk.full _ _ _) ?_)
inductive Rx where
 |none
 |inst (f t:Tm)
 |done (u:Tm)
abbrev zoO:Rx→AV
 | .none=>.nilf
 | .inst f t=>.fn (.func 120) [] [.eptr (cT f) 0,.eptr (cT t) 0]
 | .done u=>.fn (.func 167) [] [.eptr (cT u) 0]
theorem zcX(u:Tm):FC Tryz.prog 123 [aT u] (zoO (.done u)):=by
 refine zo hty Tryz.func123 rfl rfl rfl fun w0=>?_
 repeat'(first|refine zbd (z6 1 rfl rfl) ?_|refine WL_m rfl (zbo rfl rfl rfl) ?_|refine WL_p hty rfl rfl ?_|refine zh ?_|refine zi ?_|refine za ?_|refine zg ?_)
 exact zH rfl rfl (.refl _)
theorem zd2(u:Tm):FC Tryz.prog 167 [.eptr (cT u) 0] (.tup [aT u,.int .i64 0]):=by
 refine zo hty Tryz.func167 rfl rfl rfl fun w0=>?_
 repeat'(first|refine WL_p hty rfl rfl ?_|refine zh ?_|refine zi ?_|refine za ?_|refine zg ?_)
 exact zH rfl rfl (.refl _)
theorem zjp(f t b:Tm)(hb:f.kids[1]? =some b)(hk:1≤t.kids.length)(h1:f.size≤1048576)(h2:t.size≤1048576):
 FC Tryz.prog 120 [.eptr (cT f) 0,.eptr (cT t) 0] (.tup [aT (instT b (t.kids.drop 1) 0).1,.int .i64 (instT b (t.kids.drop 1) 0).2]):=by
 have hs1:=f.size_eq
 have hs2:=t.size_eq
 have hm:=List.mem_of_getElem? hb
 have hbs:=zK hm
 have rb:=zac hb
 have hdr:sizes (t.kids.drop 1)≤sizes t.kids:=by
  have:=zax (t.kids.take 1) (t.kids.drop 1)
  rw[List.take_append_drop]at this;omega
 have hin:=zfW b (t.kids.drop 1) 0 (by omega) (by omega)
 have hlen:=zM t.kids
 have hrd:rsT (t.kids.drop 1)=((rsT t.kids).take (rsT t.kids).length).drop 1:=by rw[zbq,zbq,List.take_length,List.map_drop]
 rw[show sT (t.kids.drop 1)=.lst 3 (((rsT t.kids).take (rsT t.kids).length).drop 1) false from congrArg (fun r=>AV.lst 3 r false) hrd]at hin
 refine zo hty Tryz.func120 rfl rfl rfl fun w0=>?_
 repeat'(first|refine zD (id:=1) zBz rfl (by kernel_rfl) ?_|refine zu (.inl ⟨rfl,zm (i:=1) hty rfl rfl rfl rb rfl⟩) ?_|refine zu (.inl ⟨rfl,zbO hty 1 (rsT t.kids).length rfl rfl ⟨_,1,rfl,rfl⟩ rfl (by rw[zeb];exact hk) (Nat.le_refl _) rfl⟩) ?_|refine zu (.inl ⟨rfl,zar 0 rfl hin rfl rfl rfl⟩) ?_|refine zu (.inl ⟨rfl,zI hty rfl rfl⟩) ?_|refine zS ⟨by kernel_rfl,?_⟩|refine WL_p hty rfl rfl ?_|refine zh ?_|refine zi ?_|refine za ?_|refine zg ?_)
 exact zH rfl rfl (.refl _)
end Go.Proofs.YtokfbblhjpfjkaaGreat
namespace Go.Proofs.YtokfbblhjpfjkaaGreat
open Go.Aw Go.RowKit
def zBu:List (Nat×List Nat):=[(0,[]),(1,[0]),(2,[0,1]),(3,[0,1,2]),(4,[]),(5,[4]),(6,[4,5]),(7,[4,5,6]),(8,[4,5,6,7]),(9,[4,5,6,7,8]),(10,[4,5,6,7,8,9]),(11,[0,1,2,3,4,5,6,7,8,9,10]),(12,[0,1,2,3,4,5,6,7,8,9,10,11]),(13,[0,1,2,3,4,5,6,7,8,9,10,11,12]),(14,[0,1,2,3,4,5,6,7,8,9,10,11,12,13])]
attribute [local irreducible] WL AC WD WE MStep OkOp
theorem ze9: ∀ (n:Nat) (t:Tm) (acc:List Tm),formedT t=true→formedT (spN n t acc).1=true
 |0,t,acc,h=>h
 |n+1,t,acc,h=>by
  by_cases h2:zbC t 6=true
  ·obtain⟨f,a,hk⟩:=zb0 h2
   rw[zcn h2 hk]
   exact ze9 n f _ (zao h (by rw[hk];exact List.mem_cons_self))
  ·have h2:zbC t 6=false:=by simpa using h2
   rw[zc5 h2];exact h
theorem zdg{t:Tm}(h:formedT t=true):0≤t.num:=by
 rw[za9]at h
 simp only[Bool.and_eq_true,Bool.or_eq_true,decide_eq_true_eq,inR]at h
 obtain⟨⟨_,h2,h3⟩,_⟩:=h
 rcases h2 with h2|h2
 ·rcases h3 with h3|h3
  ·exact absurd h3 h2
  ·omega
 ·exact h2.1
theorem zbl{t:Tm}(h:formedT t=true):(t.kids.length:Int)=kidsR t.kind:=by
 rw[za9]at h
 simp only[Bool.and_eq_true,decide_eq_true_eq]at h
 exact h.1.1
def zcF(t:Tm):Rx:=
 if t.kind=6 then(match t.kids with
  |[f,_]=>if f.kind=5 then .inst f t else .none
  |_=>.none)
 else if t.kind=9 then(match t.kids with
  |[p]=>if p.kind=8 then .done (p.kids.getD 1 zT)else .none
  |_=>.none)
 else if t.kind=10 then(match t.kids with
  |[p]=>if p.kind=8 then .done (p.kids.getD 2 zT)else .none
  |_=>.none)
 else if t.kind=13 then(match t.kids with
  |[_,b,r]=>if r.kind=12 then .done (.mk 6 0 [b,r.kids.getD 1 zT])else .none
  |_=>.none)
 else .none
theorem zkN{l:List Tm}(h:(l.length:Int)=2): ∃ a b,l=[a,b]:=by
 match l,h with
 |[a,b],_=>exact⟨a,b,rfl⟩
 |[],h=>simp at h
 |[_],h=>simp at h
 |_::_::_::_,h=>simp at h;omega
theorem zqo{l:List Tm}(h:(l.length:Int)=1): ∃ a,l=[a]:=by
 match l,h with
 |[a],_=>exact⟨a,rfl⟩
 |[],h=>simp at h
 |_::_::_,h=>simp at h;omega
theorem zle{l:List Tm}(h:(l.length:Int)=3): ∃ a b c,l=[a,b,c]:=by
 match l,h with
 |[a,b,c],_=>exact⟨a,b,c,rfl⟩
 |[],h=>simp at h
 |[_],h=>simp at h
 |[_,_],h=>simp at h
 |_::_::_::_::_,h=>simp at h;omega
end Go.Proofs.YtokfbblhjpfjkaaGreat
namespace Go.Proofs.YtokfbblhjpfjkaaGreat
open Go.Aw Go.RowKit
attribute [local irreducible] WL AC WD WE MStep OkOp
def zvS(t:Tm):Tm×Int:=if checkT t≠0 then(zT,checkT t)else match zcF t with
 | .none=>(zT,10)
 | .inst f u=>if(instT (f.kids.getD 1 zT) (u.kids.drop 1) 0).2≠0 then(zT,(instT (f.kids.getD 1 zT) (u.kids.drop 1) 0).2)else((instT (f.kids.getD 1 zT) (u.kids.drop 1) 0).1,0)
 | .done u=>(u,0)
def zvz:Rx→Bool
 | .none=>false
 |_=>true
def is0(t:Tm):Bool:=decide (checkT t=0)&&zvz (zcF t)
theorem zdI(l:List Tm)(i:Nat):(l.getD i zT).size≤1+sizes l:=by
 rw[List.getD_eq_getElem?_getD]
 cases h:l[i]? with
 |none=>simp[zT,Tm.size,sizes]
 |some a=>have:=zK (List.mem_of_getElem? h);simp only[Option.getD_some];omega
attribute [local irreducible] zfd
end Go.Proofs.YtokfbblhjpfjkaaGreat
