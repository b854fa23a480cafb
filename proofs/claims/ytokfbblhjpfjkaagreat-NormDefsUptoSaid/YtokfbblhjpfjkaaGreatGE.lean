/- What a term's root is reduced to, over no constants.; What a term's root is redu -/
import Derived.Test.YtokfbblhjpfjkaaGreatGD
import Derived.Test.YtokfbblhjpfjkaaGreatGC
namespace Go.Proofs.YtokfbblhjpfjkaaGreat
set_option linter.unusedSimpArgs false
set_option linter.unusedVariables false
open Go.Aw Go.RowKit
def zBz:List (Nat×List Nat):=[(0,[]),(1,[0]),(2,[0,1]),(3,[0,1,2]),(4,[]),(5,[4]),(6,[4,5]),(7,[0,1,2,3,4,5,6]),(8,[0,1,2,3,4,5,6,7]),(9,[0,1,2,3,4,5,6,7]),(10,[0,1,2,3,4,5,6,7,8,9]),(11,[0,1,2,3,4,5,6,7,8,9,10])]
attribute [local irreducible] WL AC WD WE MStep OkOp
def ofE(env:List En)(t:Tm):Option En:=if t.kind=3∧0≤t.num then env[t.num.toNat]? else none
theorem zhv(env:List En)(t:Tm)(hl:env.length≤1048576)(hn:t.kind=3→0≤t.num):FC Tryz.prog 125 [sE env,aT t] (match ofE env t with|some e=>.tup [aE e,.bool true]|none=>.tup [aE zE,.bool false]):=by
 by_cases hk:t.kind=3
 ·have h0:=hn hk
  have he:ofE env t=env[t.num.toNat]? :=by unfold ofE;rw[if_pos ⟨hk,h0⟩]
  by_cases hlt:t.num.toNat <env.length
  ·obtain⟨e,hge,_⟩:=zA hlt
   have re:=zeM hge
   rw[he,hge]
   refine zo hty Tryz.func125 rfl rfl rfl fun w0=>?_
   repeat'(first|exact absurd hk ‹_›|exact absurd (show t.num <env.length by omega) (by rw[←zaW];omega)|refine WL_m rfl (zaq hty rfl rfl rfl h0 re rfl) ?_|refine WL_p hty rfl rfl ?_|refine zh ?_|refine zi ?_|refine za ?_|refine ze ?_|refine zd rfl ?_|refine zbZ rfl ?_|refine zg ?_|refine zx rfl rfl ?_|refine zq rfl rfl rfl ?_|refine zot rfl rfl rfl ?_|refine zr rfl rfl rfl ?_|refine WL_m rfl (zm hty rfl rfl rfl (by assumption) rfl) ?_|refine zb rfl ?_|refine zj rfl rfl rfl rfl (fun _=>?_) (fun _=>?_)|refine zk rfl (fun _=>?_) (fun _=>?_))
   exact zH rfl rfl (.refl _)
  ·rw[he,List.getElem?_eq_none (by omega)]
   refine zo hty Tryz.func125 rfl rfl rfl fun w0=>?_
   repeat'(first|exact absurd hk ‹_›|exact absurd (show(env.length:Int)≤t.num by omega) (by rw[←zaW];omega)|refine WL_p hty rfl rfl ?_|refine zh ?_|refine zi ?_|refine za ?_|refine ze ?_|refine zd rfl ?_|refine zbZ rfl ?_|refine zg ?_|refine zx rfl rfl ?_|refine zq rfl rfl rfl ?_|refine zot rfl rfl rfl ?_|refine zr rfl rfl rfl ?_|refine WL_m rfl (zm hty rfl rfl rfl (by assumption) rfl) ?_|refine zb rfl ?_|refine zj rfl rfl rfl rfl (fun _=>?_) (fun _=>?_)|refine zk rfl (fun _=>?_) (fun _=>?_))
   refine zH rfl rfl (.tup (.cons (.agg ?_) (.cons (.refl _) .nil)))
   repeat'(first|exact Wks.nil|refine Wks.cons (Wk.refl _) ?_|refine Wks.cons (Wk.full _ _ _) ?_)
 ·have he:ofE env t=none:=by unfold ofE;rw[if_neg (fun h=>hk h.1)]
  rw[he]
  refine zo hty Tryz.func125 rfl rfl rfl fun w0=>?_
  repeat'(first|exact absurd (show t.kind≠3 from hk) ‹_›|refine WL_p hty rfl rfl ?_|refine zh ?_|refine zi ?_|refine za ?_|refine ze ?_|refine zd rfl ?_|refine zbZ rfl ?_|refine zg ?_|refine zx rfl rfl ?_|refine zq rfl rfl rfl ?_|refine zot rfl rfl rfl ?_|refine zr rfl rfl rfl ?_|refine WL_m rfl (zm hty rfl rfl rfl (by assumption) rfl) ?_|refine zb rfl ?_|refine zj rfl rfl rfl rfl (fun _=>?_) (fun _=>?_)|refine zk rfl (fun _=>?_) (fun _=>?_))
  refine zH rfl rfl (.tup (.cons (.agg ?_) (.cons (.refl _) .nil)))
  repeat'(first|exact Wks.nil|refine Wks.cons (Wk.refl _) ?_|refine Wks.cons (Wk.full _ _ _) ?_)
theorem zmZ(es:Nat)(f:Bool):FC Tryz.prog 46 [.lst es [] f] (.int .i64 0):=by
 refine zo hty Tryz.func46 rfl rfl rfl fun w0=>?_
 repeat'(first|exact absurd (show((0:Nat):Int)≤200 by decide) (Int.not_le.2 (by assumption))|refine WL_m rfl (zrw rfl) ?_|refine WL_p hty rfl rfl ?_|refine zh ?_|refine zi ?_|refine za ?_|refine zf ?_|refine ze ?_|refine zd rfl ?_|refine zbZ rfl ?_|refine zl ?_|refine zg ?_|refine zx rfl rfl ?_|refine zq rfl rfl rfl ?_|refine zot rfl rfl rfl ?_|refine zr rfl rfl rfl ?_|refine WL_m rfl (zm hty rfl rfl rfl (by assumption) rfl) ?_|refine zb rfl ?_|refine zj rfl rfl rfl rfl (fun _=>?_) (fun _=>?_)|refine zk rfl (fun _=>?_) (fun _=>?_))
 refine zW 0 (fun _=>True) (fun _=>⟨envOf [(13,.int .i64 0),(14,.int .i64 0)],bkOf []⟩) (zfY ⟨(zz rfl rfl),(zz rfl rfl),trivial⟩ trivial) trivial ?_
 intro i hi _
 repeat'(first|refine WL_p hty rfl rfl ?_|refine zh ?_|refine zi ?_|refine za ?_|refine zf ?_|refine ze ?_|refine zd rfl ?_|refine zbZ rfl ?_|refine zl ?_|refine zg ?_|refine zx rfl rfl ?_|refine zq rfl rfl rfl ?_|refine zot rfl rfl rfl ?_|refine zr rfl rfl rfl ?_|refine WL_m rfl (zm hty rfl rfl rfl (by assumption) rfl) ?_|refine zb rfl ?_)
 refine zj rfl rfl rfl rfl (fun hc=>by omega) (fun hc=>?_)
 repeat'(first|refine WL_p hty rfl rfl ?_|refine zh ?_|refine zi ?_|refine za ?_|refine zf ?_|refine ze ?_|refine zd rfl ?_|refine zbZ rfl ?_|refine zl ?_|refine zg ?_|refine zx rfl rfl ?_|refine zq rfl rfl rfl ?_|refine zot rfl rfl rfl ?_|refine zr rfl rfl rfl ?_|refine WL_m rfl (zm hty rfl rfl rfl (by assumption) rfl) ?_|refine zb rfl ?_|refine zj rfl rfl rfl rfl (fun _=>?_) (fun _=>?_)|refine zk rfl (fun _=>?_) (fun _=>?_))
 exact zaQ rfl rfl
inductive Rx where
 |none
 |inst (f t:Tm)
 |done (u:Tm)
abbrev zoO:Rx→AV
 | .none=>.nilf
 | .inst f t=>.fn (.func 120) [] [.eptr (cT f) 0,.eptr (cT t) 0]
 | .done u=>.fn (.func 167) [] [.eptr (cT u) 0]
theorem zcX(u:Tm):FC Tryz.prog 123 [aT u] (zoO (.done u)):=by
 refine zo hty Tryz.func123 rfl rfl rfl fun w0=>?_
 repeat'(first|refine zbd (z6 1 rfl rfl) ?_|refine WL_m rfl (zbo rfl rfl rfl) ?_|refine WL_p hty rfl rfl ?_|refine zh ?_|refine zi ?_|refine za ?_|refine zg ?_)
 exact zH rfl rfl (.refl _)
theorem zd2(u:Tm):FC Tryz.prog 167 [.eptr (cT u) 0] (.tup [aT u,.int .i64 0]):=by
 refine zo hty Tryz.func167 rfl rfl rfl fun w0=>?_
 repeat'(first|refine WL_p hty rfl rfl ?_|refine zh ?_|refine zi ?_|refine za ?_|refine zg ?_)
 exact zH rfl rfl (.refl _)
theorem zjp(f t b:Tm)(hb:f.kids[1]? =some b)(hk:1≤t.kids.length)(h1:f.size≤1048576)(h2:t.size≤1048576):
 FC Tryz.prog 120 [.eptr (cT f) 0,.eptr (cT t) 0] (.tup [aT (instT b (t.kids.drop 1) 0).1,.int .i64 (instT b (t.kids.drop 1) 0).2]):=by
 have hs1:=f.size_eq
 have hs2:=t.size_eq
 have hm:=List.mem_of_getElem? hb
 have hbs:=zK hm
 have rb:=zac hb
 have hdr:sizes (t.kids.drop 1)≤sizes t.kids:=by
  have:=zax (t.kids.take 1) (t.kids.drop 1)
  rw[List.take_append_drop]at this;omega
 have hin:=zfW b (t.kids.drop 1) 0 (by omega) (by omega)
 have hlen:=zM t.kids
 have hrd:rsT (t.kids.drop 1)=((rsT t.kids).take (rsT t.kids).length).drop 1:=by rw[zbq,zbq,List.take_length,List.map_drop]
 rw[show sT (t.kids.drop 1)=.lst 3 (((rsT t.kids).take (rsT t.kids).length).drop 1) false from congrArg (fun r=>AV.lst 3 r false) hrd]at hin
 refine zo hty Tryz.func120 rfl rfl rfl fun w0=>?_
 repeat'(first|refine zD (id:=1) zBz rfl (by kernel_rfl) ?_|refine zu (.inl ⟨rfl,zm (i:=1) hty rfl rfl rfl rb rfl⟩) ?_|refine zu (.inl ⟨rfl,zbO hty 1 (rsT t.kids).length rfl rfl ⟨_,1,rfl,rfl⟩ rfl (by rw[zeb];exact hk) (Nat.le_refl _) rfl⟩) ?_|refine zu (.inl ⟨rfl,zar 0 rfl hin rfl rfl rfl⟩) ?_|refine zu (.inl ⟨rfl,zI hty rfl rfl⟩) ?_|refine zu (.inl ⟨rfl,zm hty rfl rfl rfl (by assumption) rfl⟩) ?_|refine zS ⟨by kernel_rfl,?_⟩|refine WL_p hty rfl rfl ?_|refine zh ?_|refine zi ?_|refine za ?_|refine ze ?_|refine zg ?_|refine zb rfl ?_)
 exact zH rfl rfl (.refl _)
end Go.Proofs.YtokfbblhjpfjkaaGreat
namespace Go.Proofs.YtokfbblhjpfjkaaGreat
set_option linter.unusedSimpArgs false
set_option linter.unusedVariables false
open Go.Aw Go.RowKit
def zBu:List (Nat×List Nat):=[(0,[]),(1,[0]),(2,[0,1]),(3,[0,1,2]),(4,[]),(5,[4]),(6,[4,5]),(7,[4,5,6]),(8,[4,5,6,7]),(9,[4,5,6,7,8]),(10,[4,5,6,7,8,9]),(11,[0,1,2,3,4,5,6,7,8,9,10]),(12,[0,1,2,3,4,5,6,7,8,9,10,11]),(13,[0,1,2,3,4,5,6,7,8,9,10,11,12]),(14,[0,1,2,3,4,5,6,7,8,9,10,11,12,13])]
attribute [local irreducible] WL AC WD WE MStep OkOp
theorem ze9: ∀ (n:Nat) (t:Tm) (acc:List Tm),formedT t=true→formedT (spN n t acc).1=true
 |0,t,acc,h=>h
 |n+1,t,acc,h=>by
  by_cases h2:zbC t 6=true
  ·obtain⟨f,a,hk⟩:=zb0 h2
   rw[zcn h2 hk]
   exact ze9 n f _ (zao h (by rw[hk];exact List.mem_cons_self))
  ·have h2:zbC t 6=false:=by simpa using h2
   rw[zc5 h2];exact h
theorem zdg{t:Tm}(h:formedT t=true):0≤t.num:=by
 rw[za9]at h
 simp only[Bool.and_eq_true,Bool.or_eq_true,decide_eq_true_eq,inR]at h
 obtain⟨⟨_,h2,h3⟩,_⟩:=h
 rcases h2 with h2|h2
 ·rcases h3 with h3|h3
  ·exact absurd h3 h2
  ·omega
 ·exact h2.1
theorem zbl{t:Tm}(h:formedT t=true):(t.kids.length:Int)=zdV t.kind:=by
 rw[za9]at h
 simp only[Bool.and_eq_true,decide_eq_true_eq]at h
 exact h.1.1
theorem zni(t:Tm)(hs:t.size≤1048576)(hfm:formedT t=true):FC Tryz.prog 122 [sE [],aT t] .nilf:=by
 have hsp:=zcR t hs
 have hof:=zhv [] (zF t).1 (by simp) (fun _=>zdg (ze9 t.size t [] hfm))
 have he:ofE [] (zF t).1=none:=by unfold ofE;split <;>rfl
 rw[he]at hof
 refine zo hty Tryz.func122 rfl rfl rfl fun w0=>?_
 repeat'(first|refine zv 0 rfl hsp rfl rfl rfl ?_|refine zv 0 rfl hof rfl rfl rfl ?_|refine WL_p hty rfl rfl ?_|refine zh ?_|refine zi ?_|refine za ?_|refine ze ?_|refine zd rfl ?_|refine zbZ rfl ?_|refine zg ?_|refine zx rfl rfl ?_|refine zq rfl rfl rfl ?_|refine zot rfl rfl rfl ?_|refine zr rfl rfl rfl ?_|refine zb rfl ?_|refine zj rfl rfl rfl rfl (fun _=>?_) (fun _=>?_)|refine zk rfl (fun _=>?_) (fun _=>?_))
 exact zH rfl rfl (.refl _)
def zcF(t:Tm):Rx:=
 if t.kind=6 then(match t.kids with
  |[f,_]=>if f.kind=5 then .inst f t else .none
  |_=>.none)
 else if t.kind=9 then(match t.kids with
  |[p]=>if p.kind=8 then .done (p.kids.getD 1 zT)else .none
  |_=>.none)
 else if t.kind=10 then(match t.kids with
  |[p]=>if p.kind=8 then .done (p.kids.getD 2 zT)else .none
  |_=>.none)
 else if t.kind=13 then(match t.kids with
  |[_,b,r]=>if r.kind=12 then .done (.mk 6 0 [b,r.kids.getD 1 zT])else .none
  |_=>.none)
 else .none
theorem zkN{l:List Tm}(h:(l.length:Int)=2): ∃ a b,l=[a,b]:=by
 match l,h with
 |[a,b],_=>exact⟨a,b,rfl⟩
 |[],h=>simp at h
 |[_],h=>simp at h
 |_::_::_::_,h=>simp at h;omega
theorem zqo{l:List Tm}(h:(l.length:Int)=1): ∃ a,l=[a]:=by
 match l,h with
 |[a],_=>exact⟨a,rfl⟩
 |[],h=>simp at h
 |_::_::_,h=>simp at h;omega
theorem zle{l:List Tm}(h:(l.length:Int)=3): ∃ a b c,l=[a,b,c]:=by
 match l,h with
 |[a,b,c],_=>exact⟨a,b,c,rfl⟩
 |[],h=>simp at h
 |[_],h=>simp at h
 |[_,_],h=>simp at h
 |_::_::_::_::_,h=>simp at h;omega
set_option maxHeartbeats 4000000 in
theorem zoH(t:Tm)(hs:t.size≤1048576)(hfm:formedT t=true):FC Tryz.prog 81 [sE [],aT t] (zoO (zcF t)):=by
 have hsz:=t.size_eq
 have hlen:=zbl hfm
 have hspn:=zni t hs hfm
 by_cases k6:t.kind=6
 ·obtain⟨f,a,hk⟩:=zkN (l:=t.kids) (by rw[hlen,k6];rfl)
  have r0:(rsT t.kids)[0]? =some (cT f):=by rw[hk,rs2];rfl
  have hl:zcF t=if f.kind=5 then .inst f t else .none:=by unfold zcF;simp only[k6,hk];rfl
  rw[hl]
  by_cases hf:f.kind=5
  ·rw[if_pos hf]
   refine zo hty Tryz.func81 rfl rfl rfl fun w0=>?_
   repeat'(first|exact absurd k6 ‹_›|exact absurd hf ‹_›|refine WL_m rfl (zm (i:=0) hty rfl rfl rfl r0 rfl) ?_|(refine zbd (z6 5 rfl rfl) ?_;refine zbd (z6 3 rfl rfl) ?_;refine WL_m rfl (zbo rfl rfl rfl) ?_)|refine WL_p hty rfl rfl ?_|refine zh ?_|refine zi ?_|refine za ?_|refine zf ?_|refine ze ?_|refine zd rfl ?_|refine zbZ rfl ?_|refine zg ?_|refine zx rfl rfl ?_|refine zq rfl rfl rfl ?_|refine zot rfl rfl rfl ?_|refine zr rfl rfl rfl ?_|refine WL_m rfl (zm hty rfl rfl rfl (by assumption) rfl) ?_|refine zb rfl ?_|refine zj rfl rfl rfl rfl (fun _=>?_) (fun _=>?_)|refine zk rfl (fun _=>?_) (fun _=>?_))
   exact zH rfl rfl (.refl _)
  ·rw[if_neg hf]
   refine zo hty Tryz.func81 rfl rfl rfl fun w0=>?_
   repeat'(first|exact absurd k6 ‹_›|exact absurd (by assumption) hf|refine WL_m rfl (zm (i:=0) hty rfl rfl rfl r0 rfl) ?_|refine zv 0 rfl hspn rfl rfl rfl ?_|refine WL_p hty rfl rfl ?_|refine zh ?_|refine zi ?_|refine za ?_|refine zf ?_|refine ze ?_|refine zd rfl ?_|refine zbZ rfl ?_|refine zg ?_|refine zx rfl rfl ?_|refine zq rfl rfl rfl ?_|refine zot rfl rfl rfl ?_|refine zr rfl rfl rfl ?_|refine WL_m rfl (zm hty rfl rfl rfl (by assumption) rfl) ?_|refine zb rfl ?_|refine zj rfl rfl rfl rfl (fun _=>?_) (fun _=>?_)|refine zk rfl (fun _=>?_) (fun _=>?_))
   exact zH rfl rfl (.refl _)
 by_cases k9:t.kind=9
 ·obtain⟨p,hk⟩:=zqo (l:=t.kids) (by rw[hlen,k9];rfl)
  have r0:(rsT t.kids)[0]? =some (cT p):=by rw[hk,rs1];rfl
  have hl:zcF t=if p.kind=8 then .done (p.kids.getD 1 zT)else .none:=by unfold zcF;simp only[k9,hk];rfl
  rw[hl]
  by_cases hp:p.kind=8
  ·have hpf:=zao hfm (show p∈t.kids by rw[hk];exact List.mem_cons_self)
   obtain⟨x,y,z,hpk⟩:=zle (l:=p.kids) (by rw[zbl hpf,hp];rfl)
   have q1:(rsT p.kids)[1]? =some (cT y):=by rw[hpk,rs3];rfl
   rw[if_pos hp,hpk]
   refine zo hty Tryz.func81 rfl rfl rfl fun w0=>?_
   repeat'(first|exact absurd (by assumption) k6|exact absurd k9 ‹_›|exact absurd hp ‹_›|refine WL_m rfl (zm (i:=0) hty rfl rfl rfl r0 rfl) ?_|refine WL_m rfl (zm (i:=1) hty rfl rfl rfl q1 rfl) ?_|refine zv 0 rfl (zcX y) rfl rfl rfl ?_|refine WL_p hty rfl rfl ?_|refine zh ?_|refine zi ?_|refine za ?_|refine zf ?_|refine ze ?_|refine zd rfl ?_|refine zbZ rfl ?_|refine zg ?_|refine zx rfl rfl ?_|refine zq rfl rfl rfl ?_|refine zot rfl rfl rfl ?_|refine zr rfl rfl rfl ?_|refine WL_m rfl (zm hty rfl rfl rfl (by assumption) rfl) ?_|refine zb rfl ?_|refine zj rfl rfl rfl rfl (fun _=>?_) (fun _=>?_)|refine zk rfl (fun _=>?_) (fun _=>?_))
   exact zH rfl rfl (.refl _)
  ·rw[if_neg hp]
   refine zo hty Tryz.func81 rfl rfl rfl fun w0=>?_
   repeat'(first|exact absurd (by assumption) k6|exact absurd k9 ‹_›|exact absurd (by assumption) hp|refine WL_m rfl (zm (i:=0) hty rfl rfl rfl r0 rfl) ?_|refine WL_p hty rfl rfl ?_|refine zh ?_|refine zi ?_|refine za ?_|refine zf ?_|refine ze ?_|refine zd rfl ?_|refine zbZ rfl ?_|refine zg ?_|refine zx rfl rfl ?_|refine zq rfl rfl rfl ?_|refine zot rfl rfl rfl ?_|refine zr rfl rfl rfl ?_|refine WL_m rfl (zm hty rfl rfl rfl (by assumption) rfl) ?_|refine zb rfl ?_|refine zj rfl rfl rfl rfl (fun _=>?_) (fun _=>?_)|refine zk rfl (fun _=>?_) (fun _=>?_))
   exact zH rfl rfl (.refl _)
 by_cases k10:t.kind=10
 ·obtain⟨p,hk⟩:=zqo (l:=t.kids) (by rw[hlen,k10];rfl)
  have r0:(rsT t.kids)[0]? =some (cT p):=by rw[hk,rs1];rfl
  have hl:zcF t=if p.kind=8 then .done (p.kids.getD 2 zT)else .none:=by unfold zcF;simp only[k10,hk];rfl
  rw[hl]
  by_cases hp:p.kind=8
  ·have hpf:=zao hfm (show p∈t.kids by rw[hk];exact List.mem_cons_self)
   obtain⟨x,y,z,hpk⟩:=zle (l:=p.kids) (by rw[zbl hpf,hp];rfl)
   have q1:(rsT p.kids)[2]? =some (cT z):=by rw[hpk,rs3];rfl
   rw[if_pos hp,hpk]
   refine zo hty Tryz.func81 rfl rfl rfl fun w0=>?_
   repeat'(first|exact absurd (by assumption) k6|exact absurd (by assumption) k9|exact absurd k10 ‹_›|exact absurd hp ‹_›|refine WL_m rfl (zm (i:=0) hty rfl rfl rfl r0 rfl) ?_|refine WL_m rfl (zm (i:=2) hty rfl rfl rfl q1 rfl) ?_|refine zv 0 rfl (zcX z) rfl rfl rfl ?_|refine WL_p hty rfl rfl ?_|refine zh ?_|refine zi ?_|refine za ?_|refine zf ?_|refine ze ?_|refine zd rfl ?_|refine zbZ rfl ?_|refine zg ?_|refine zx rfl rfl ?_|refine zq rfl rfl rfl ?_|refine zot rfl rfl rfl ?_|refine zr rfl rfl rfl ?_|refine WL_m rfl (zm hty rfl rfl rfl (by assumption) rfl) ?_|refine zb rfl ?_|refine zj rfl rfl rfl rfl (fun _=>?_) (fun _=>?_)|refine zk rfl (fun _=>?_) (fun _=>?_))
   exact zH rfl rfl (.refl _)
  ·rw[if_neg hp]
   refine zo hty Tryz.func81 rfl rfl rfl fun w0=>?_
   repeat'(first|exact absurd (by assumption) k6|exact absurd (by assumption) k9|exact absurd k10 ‹_›|exact absurd (by assumption) hp|refine WL_m rfl (zm (i:=0) hty rfl rfl rfl r0 rfl) ?_|refine WL_p hty rfl rfl ?_|refine zh ?_|refine zi ?_|refine za ?_|refine zf ?_|refine ze ?_|refine zd rfl ?_|refine zbZ rfl ?_|refine zg ?_|refine zx rfl rfl ?_|refine zq rfl rfl rfl ?_|refine zot rfl rfl rfl ?_|refine zr rfl rfl rfl ?_|refine WL_m rfl (zm hty rfl rfl rfl (by assumption) rfl) ?_|refine zb rfl ?_|refine zj rfl rfl rfl rfl (fun _=>?_) (fun _=>?_)|refine zk rfl (fun _=>?_) (fun _=>?_))
   exact zH rfl rfl (.refl _)
 by_cases k13:t.kind=13
 ·obtain⟨a,b,r,hk⟩:=zle (l:=t.kids) (by rw[hlen,k13];rfl)
  have r1:(rsT t.kids)[1]? =some (cT b):=by rw[hk,rs3];rfl
  have r2:(rsT t.kids)[2]? =some (cT r):=by rw[hk,rs3];rfl
  have hl:zcF t=if r.kind=12 then .done (.mk 6 0 [b,r.kids.getD 1 zT])else .none:=by unfold zcF;simp only[k13,hk];rfl
  rw[hl]
  by_cases hp:r.kind=12
  ·have hpf:=zao hfm (show r∈t.kids by rw[hk];simp)
   obtain⟨x,y,hpk⟩:=zkN (l:=r.kids) (by rw[zbl hpf,hp];rfl)
   have q1:(rsT r.kids)[1]? =some (cT y):=by rw[hpk,rs2];rfl
   rw[if_pos hp,hpk]
   have hnd:=(zdZ 6 [b,y]).args (xs:=[.int .i64 6,.lst 3 [cT b,cT y] true]) (.cons (.refl _) (.cons (by rw[←rs2];exact .full _ _ _) .nil))
   refine zo hty Tryz.func81 rfl rfl rfl fun w0=>?_
   repeat'(first|exact absurd (by assumption) k6|exact absurd (by assumption) k9|exact absurd (by assumption) k10|exact absurd k13 ‹_›|exact absurd hp ‹_›|refine WL_m rfl (zm (i:=2) hty rfl rfl rfl r2 rfl) ?_|refine zD (id:=15) zBu rfl (by kernel_rfl) ?_|refine zu (.inl ⟨rfl,zm (i:=1) hty rfl rfl rfl r1 rfl⟩) ?_|refine zu (.inl ⟨rfl,zm (i:=2) hty rfl rfl rfl r2 rfl⟩) ?_|refine zu (.inl ⟨rfl,zm (i:=1) hty rfl rfl rfl q1 rfl⟩) ?_|refine zu (.inl ⟨rfl,zar 0 rfl hnd rfl rfl rfl⟩) ?_|refine zu (.inl ⟨rfl,zar 0 rfl (zcX _) rfl rfl rfl⟩) ?_|refine zu (.inl ⟨rfl,zI hty rfl rfl⟩) ?_|refine zu (.inl ⟨rfl,zm hty rfl rfl rfl (by assumption) rfl⟩) ?_|refine zS ⟨by kernel_rfl,?_⟩|refine WL_p hty rfl rfl ?_|refine zh ?_|refine zi ?_|refine za ?_|refine zf ?_|refine ze ?_|refine zd rfl ?_|refine zbZ rfl ?_|refine zg ?_|refine zx rfl rfl ?_|refine zq rfl rfl rfl ?_|refine zot rfl rfl rfl ?_|refine zr rfl rfl rfl ?_|refine WL_m rfl (zm hty rfl rfl rfl (by assumption) rfl) ?_|refine zb rfl ?_|refine zj rfl rfl rfl rfl (fun _=>?_) (fun _=>?_)|refine zk rfl (fun _=>?_) (fun _=>?_))
   exact zH rfl rfl (.refl _)
  ·rw[if_neg hp]
   refine zo hty Tryz.func81 rfl rfl rfl fun w0=>?_
   repeat'(first|exact absurd (by assumption) k6|exact absurd (by assumption) k9|exact absurd (by assumption) k10|exact absurd k13 ‹_›|exact absurd (by assumption) hp|refine WL_m rfl (zm (i:=2) hty rfl rfl rfl r2 rfl) ?_|refine WL_p hty rfl rfl ?_|refine zh ?_|refine zi ?_|refine za ?_|refine zf ?_|refine ze ?_|refine zd rfl ?_|refine zbZ rfl ?_|refine zg ?_|refine zx rfl rfl ?_|refine zq rfl rfl rfl ?_|refine zot rfl rfl rfl ?_|refine zr rfl rfl rfl ?_|refine WL_m rfl (zm hty rfl rfl rfl (by assumption) rfl) ?_|refine zb rfl ?_|refine zj rfl rfl rfl rfl (fun _=>?_) (fun _=>?_)|refine zk rfl (fun _=>?_) (fun _=>?_))
   exact zH rfl rfl (.refl _)
 have hl:zcF t=.none:=by
  unfold zcF
  rw[if_neg k6,if_neg k9,if_neg k10,if_neg k13]
 rw[hl]
 by_cases k3:t.kind=3
 ·have hof:=zhv [] t (by simp) (fun _=>zdg hfm)
  have he:ofE [] t=none:=by unfold ofE;split <;>rfl
  rw[he]at hof
  refine zo hty Tryz.func81 rfl rfl rfl fun w0=>?_
  repeat'(first|exact absurd (by assumption) k6|exact absurd (by assumption) k9|exact absurd (by assumption) k10|exact absurd (by assumption) k13|exact absurd k3 ‹_›|refine zv 0 rfl hof rfl rfl rfl ?_|refine WL_p hty rfl rfl ?_|refine zh ?_|refine zi ?_|refine za ?_|refine zf ?_|refine ze ?_|refine zd rfl ?_|refine zbZ rfl ?_|refine zg ?_|refine zx rfl rfl ?_|refine zq rfl rfl rfl ?_|refine zot rfl rfl rfl ?_|refine zr rfl rfl rfl ?_|refine WL_m rfl (zm hty rfl rfl rfl (by assumption) rfl) ?_|refine zb rfl ?_|refine zj rfl rfl rfl rfl (fun _=>?_) (fun _=>?_)|refine zk rfl (fun _=>?_) (fun _=>?_))
  exact zH rfl rfl (.refl _)
 ·refine zo hty Tryz.func81 rfl rfl rfl fun w0=>?_
  repeat'(first|exact absurd (by assumption) k6|exact absurd (by assumption) k9|exact absurd (by assumption) k10|exact absurd (by assumption) k13|exact absurd (by assumption) k3|refine WL_p hty rfl rfl ?_|refine zh ?_|refine zi ?_|refine za ?_|refine zf ?_|refine ze ?_|refine zd rfl ?_|refine zbZ rfl ?_|refine zg ?_|refine zx rfl rfl ?_|refine zq rfl rfl rfl ?_|refine zot rfl rfl rfl ?_|refine zr rfl rfl rfl ?_|refine WL_m rfl (zm hty rfl rfl rfl (by assumption) rfl) ?_|refine zb rfl ?_|refine zj rfl rfl rfl rfl (fun _=>?_) (fun _=>?_)|refine zk rfl (fun _=>?_) (fun _=>?_))
  exact zH rfl rfl (.refl _)
end Go.Proofs.YtokfbblhjpfjkaaGreat
namespace Go.Proofs.YtokfbblhjpfjkaaGreat
set_option linter.unusedSimpArgs false
set_option linter.unusedVariables false
open Go.Aw Go.RowKit
attribute [local irreducible] WL AC WD WE MStep OkOp
def zvS(t:Tm):Tm×Int:=if z8 t≠0 then(zT,z8 t)else match zcF t with
 | .none=>(zT,10)
 | .inst f u=>if(instT (f.kids.getD 1 zT) (u.kids.drop 1) 0).2≠0 then(zT,(instT (f.kids.getD 1 zT) (u.kids.drop 1) 0).2)else((instT (f.kids.getD 1 zT) (u.kids.drop 1) 0).1,0)
 | .done u=>(u,0)
def zvz:Rx→Bool
 | .none=>false
 |_=>true
def is0(t:Tm):Bool:=decide (z8 t=0)&&zvz (zcF t)
theorem zpm{t f u:Tm}(h:zcF t=.inst f u):u=t∧f.kind=5∧ ∃ a,t.kids=[f,a]:=by
 unfold zcF at h
 split at h
 ·split at h
  ·rename_i g a hk
   split at h
   ·rename_i h5
    obtain⟨rfl,rfl⟩:=Rx.inst.inj h
    exact⟨rfl,h5,a,hk⟩
   ·cases h
  ·cases h
 ·split at h
  ·split at h
   ·split at h <;>cases h
   ·cases h
  ·split at h
   ·split at h
    ·split at h <;>cases h
    ·cases h
   ·split at h
    ·split at h
     ·split at h <;>cases h
     ·cases h
    ·cases h
theorem zdI(l:List Tm)(i:Nat):(l.getD i zT).size≤1+sizes l:=by
 rw[List.getD_eq_getElem?_getD]
 cases h:l[i]? with
 |none=>simp[zT,Tm.size,sizes]
 |some a=>have:=zK (List.mem_of_getElem? h);simp only[Option.getD_some];omega
theorem zp9{t u:Tm}(h:zcF t=.done u):u.size≤t.size+2:=by
 have ht:=t.size_eq
 unfold zcF at h
 split at h
 ·split at h
  ·split at h <;>cases h
  ·cases h
 ·split at h
  ·split at h
   ·rename_i p hk
    split at h
    ·cases h
     have:=zdI p.kids 1
     rw[hk]at ht
     have hp:=p.size_eq
     simp only[sizes]at ht
     omega
    ·cases h
   ·cases h
  ·split at h
   ·split at h
    ·rename_i p hk
     split at h
     ·cases h
      have:=zdI p.kids 2
      rw[hk]at ht
      have hp:=p.size_eq
      simp only[sizes]at ht
      omega
     ·cases h
    ·cases h
   ·split at h
    ·split at h
     ·rename_i a b r hk
      split at h
      ·cases h
       have:=zdI r.kids 1
       rw[hk]at ht
       have hp:=r.size_eq
       have ha:=a.size_pos
       simp only[sizes]at ht
       simp only[Tm.size,sizes]
       omega
      ·cases h
     ·cases h
    ·cases h
attribute [local irreducible] zfd
end Go.Proofs.YtokfbblhjpfjkaaGreat
