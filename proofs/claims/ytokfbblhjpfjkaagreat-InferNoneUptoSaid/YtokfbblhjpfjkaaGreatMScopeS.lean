/- What is in scope is reduced at its root to what is in scope, over a right row: i -/
import Derived.Test.YtokfbblhjpfjkaaGreatMScopeR
set_option linter.unusedSimpArgs false
set_option linter.unusedVariables false
namespace Go.Proofs.YtokfbblhjpfjkaaGreat
open Go.Aw Go.RowKit
theorem zxS: ∀ {l:List En} {f:Int→Option Bl} {i:Nat},zcQ f i l=true→ ∀ (j:Nat) e,l[j]? =some e→3≤e.kind→(∀ b,f e.base=some b→e.block=b)∧ ∀ (k:Nat) x,l[k]? =some x→3≤x.kind→x.base=e.base→x.block=e.block
 |[],_,_,_,j,e,h,_=>by simp at h
 |a::l,f,i,h,j,e,he,hk=>by
  simp only[zcQ,Bool.and_eq_true]at h
  have ih:=zxS h.2
  have keep: ∀ (x:En) b,f x.base=some b→zfm f a x.base=some b∨x.base=a.base∧zfm f a x.base=some a.block:=by
   intro x b hb
   unfold zfm
   split
   ·exact .inl hb
   ·simp only
    split
    ·rename_i q;exact .inr ⟨q,rfl⟩
    ·exact .inl hb
  have first:3≤a.kind→ ∀ b,f a.base=some b→a.block=b:=by
   intro q b hb
   have h1:=h.1
   simp only[zbG,Bool.and_eq_true,Bool.or_eq_true,decide_eq_true_eq]at h1
   rcases h1.2 with r|r
   ·omega
   ·unfold zfH at r
    rw[hb]at r
    simp only at r
    have:=of_decide_eq_true r
    first|exact this|exact this.symm
  have put:3≤a.kind→zfm f a a.base=some a.block:=by
   intro q
   unfold zfm
   rw[if_neg (by omega)]
   simp
  have later: ∀ (k:Nat) x,l[k]? =some x→3≤x.kind→(∀ b,f x.base=some b→x.block=b)∧(3≤a.kind→x.base=a.base→x.block=a.block):=by
   intro k x hx q
   refine⟨fun b hb=>?_,fun q2 e=>(ih k x hx q).1 _ (by rw[e];exact put q2)⟩
   rcases keep x b hb with r|⟨r1,r2⟩
   ·exact(ih k x hx q).1 b r
   ·by_cases q2:3≤a.kind
    ·rw[(ih k x hx q).1 _ r2];exact first q2 b (r1▸hb)
    ·have:zfm f a=f:=by unfold zfm;rw[if_pos (by omega)]
     rw[this]at r2
     rw[hb]at r2
     rw[(ih k x hx q).1 b (by rw[this];exact hb)]
  cases j with
  |zero=>
   obtain rfl:=Option.some.inj (show some a=some e from he)
   refine⟨first hk,fun k x hx q hb=>?_⟩
   cases k with
   |zero=>obtain rfl:=Option.some.inj (show some a=some x from hx);rfl
   |succ k=>exact(later k x (by simpa using hx) q).2 hk hb
  |succ j=>
   have he':l[j]? =some e:=by simpa using he
   refine⟨(later j e he' hk).1,fun k x hx q hb=>?_⟩
   cases k with
   |zero=>
    obtain rfl:=Option.some.inj (show some a=some x from hx)
    exact((later j e he' hk).2 q hb.symm).symm
   |succ k=>exact(ih j e he' hk).2 k x (by simpa using hx) q hb
theorem zyx{env:List En}(hE:zCC env=0){j k:Nat}{e x:En}(he:env[j]? =some e)(hx:env[k]? =some x)(h1:3≤e.kind)(h2:3≤x.kind)(hb:x.base=e.base):x.block=e.block:=by
 have hr:zcQ (fun _=>none) 0 env=true:=by
  unfold zCC at hE
  split at hE
  ·cases hE
  ·split at hE
   ·assumption
   ·cases hE
 exact(zxS hr j e he h1).2 k x hx h2 hb
end Go.Proofs.YtokfbblhjpfjkaaGreat
