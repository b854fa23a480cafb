/- What is in scope is reduced at its root to what is in scope, over a right row: i -/
import Derived.Test.YtokfbblhjpfjkaaGreatLScopeR
set_option linter.unusedSimpArgs false
set_option linter.unusedVariables false
namespace Go.Proofs.YtokfbblhjpfjkaaGreat
open Go.Aw Go.RowKit
theorem zyU{b:Bl}{base n:Int}(h0:0≤base)(h1:base≤65535)(h:base+b.sorts.length+zaX b.sorts≤n)(h2:n <base+(countN b:Nat)):(ofB b base n).1=5∨(ofB b base n).1=6:=by
 unfold countN at h2
 by_cases hc:n-(base+b.sorts.length+zaX b.sorts) <b.cons.length
 ·left
  have:=ziF (b:=b) (base:=base) (n:=n) (k:=(n-(base+b.sorts.length+zaX b.sorts)).toNat) (by
   unfold zaO zb3
   rw[if_neg (by omega),if_neg (by omega),if_neg (by omega),if_neg (by omega)];omega) (by omega)
  rw[this]
 ·right
  have:=zi5 (b:=b) (base:=base) (n:=n) (k:=(n-(base+b.sorts.length+zaX b.sorts+b.cons.length)).toNat) (by
   unfold zaz zb3
   rw[if_neg (by omega),if_neg (by omega),if_neg (by omega),if_neg (by omega)];omega) (by omega)
  rw[this]
theorem zyw{l:List Tm}{x:Tm}(h:x∈l):x∈l.take (l.length-1)∨x=l.getD (l.length-1) zT:=by
 have hne:0 <l.length:=List.length_pos_of_mem h
 obtain⟨i,hi,rfl⟩:=List.mem_iff_getElem.1 h
 by_cases q:i <l.length-1
 ·left
  rw[List.mem_iff_getElem]
  exact⟨i,by rw[List.length_take];omega,by rw[List.getElem_take]⟩
 ·right
  have:i=l.length-1:=by omega
  subst this
  rw[List.getD_eq_getElem?_getD,List.getElem?_eq_getElem hi];rfl
theorem zxY{b:Bl}{base L:Int}{args:List Ar}(h0:0≤base)(h1:base≤65535)(hL:base+b.sorts.length+zaX b.sorts≤L): ∀ (f:Nat) (m:Int) (t:Tm),t.size≤f→zaI b base args f m t=true→ ∀ v,zbx t v (base+(countN b:Nat))=true→zbx t v L=true:=by
 intro f
 induction f with
 |zero=>intro m t h;have:=t.size_pos;omega
 |succ f ih=>
 intro m t ht hc v hs
 have low: ∀ n:Int,n <base+(countN b:Nat)→(ofB b base n).1≠5→(ofB b base n).1≠6→n <L:=by
  intro n q q5 q6
  by_cases hn:base+b.sorts.length+zaX b.sorts≤n
  ·rcases zyU h0 h1 hn q with r|r
   ·exact absurd r q5
   ·exact absurd r q6
  ·omega
 unfold zaI at hc
 split at hc
 ·rename_i hk
  rw[zkm,if_pos hk]at hs⊢;exact hs
 ·rename_i hk1
  split at hc
  ·rename_i hk
   have hc:=of_decide_eq_true hc
   rw[zkm,if_neg (by omega),if_neg (by omega),if_pos hk]at hs⊢
   exact decide_eq_true (low _ (of_decide_eq_true hs) (by omega) (by omega))
  ·rename_i hk3
   split at hc
   ·rename_i hd
    obtain⟨_,hd⟩:=hd
    unfold zbP at hd
    simp only[Bool.and_eq_true,decide_eq_true_eq]at hd
    obtain⟨d1,d2,d3,d4,d5,d6⟩:=hd
    obtain⟨s1,s2⟩:=zrJ.2 hs
    have hsz:=zbb t
    have hhd:=(zF t).1.size_pos
    refine zrJ.1 ⟨?_,fun a ha=>?_⟩
    ·rw[zkm,if_neg (by omega),if_neg (by omega),if_pos d1]at s1⊢
     exact decide_eq_true (low _ (of_decide_eq_true s1) (by omega) (by omega))
    ·have hsa:=zK ha
     rcases zyw ha with q|q
     ·exact ih _ _ (by omega) (List.all_eq_true.1 d5 a q) v (s2 a ha)
     ·obtain⟨r1,r2⟩:=zrJ.2 (s2 a ha)
      have hsz2:=zbb a
      rw[←q]at d4 d6
      refine zrJ.1 ⟨?_,fun x hx=>?_⟩
      ·have hk:(zF a).1.kind=1:=by
        unfold zal at d4
        split at d4
        ·rename_i z;exact z.1
        ·cases d4
       rw[zkm,if_pos hk]at r1⊢;exact r1
      ·have hsx:=zK hx
       exact ih _ _ (by omega) (List.all_eq_true.1 d6 x hx) v (r2 x hx)
   ·rw[zkm,if_neg hk1]at hs⊢
    split
    ·rename_i hk2;rwa[if_pos hk2]at hs
    ·rename_i hk2
     rw[if_neg hk2,if_neg hk3]at hs
     try rw[if_neg hk3]
     have hts:=t.size_eq
     have: ∀ (l:List Tm) (i:Int),sizes l≤f→zba (zaI b base args f) m t.kind i l=true→zaD t.kind i l v (base+(countN b:Nat))=true→zaD t.kind i l v L=true:=by
      intro l
      induction l with
      |nil=>intro i _ _ _;rw[zaD]
      |cons x l ihl=>
       intro i hz hk hq
       rw[zba,Bool.and_eq_true]at hk
       rw[zaD,Bool.and_eq_true]at hq⊢
       simp only[sizes]at hz
       exact⟨ih _ _ (by omega) hk.1 _ hq.1,ihl (i+1) (by omega) hk.2 hq.2⟩
     exact this t.kids 0 (by omega) hc hs
theorem zxb{b:Bl}{co:Cn}(hc:co∈b.cons):(∀ x,x=co.dec→x∈zbK b)∧ ∀ a,a∈co.args→ ∀ x,x∈a.dom∨x∈a.idx→x∈zbK b:=by
 have hx: ∀ x,x∈zr0 co→x∈zbK b:=fun x hx=>List.mem_append.2 (.inr (List.mem_flatMap.2 ⟨co,hc,hx⟩))
 refine⟨fun x h=>hx x (by rw[h];exact List.mem_cons_self),fun a ha x h=>hx x ?_⟩
 refine List.mem_cons_of_mem _ (List.mem_append.2 (.inr (List.mem_flatMap.2 ⟨a,ha,List.mem_cons_of_mem _ (List.mem_append.2 h)⟩)))
theorem zxe{b:Bl}{x:Tm}(h:x∈zbK b): ∃ a,mostT x a≤zkb b:=zxH _ h
theorem zx6{env:List En}(hE:envI env=0){e:En}{t:Tm}(h:(madeV env e t).2.2=true): ∃ (k:Nat) (con:Cn) (j:Nat) (x:En),(madeV env e t).1=(k:Nat)∧e.block.cons[k]? =some con∧con.args.length=(madeV env e t).2.1.length∧con.sort=e.which∧
 (∀ a,a∈(madeV env e t).2.1→a∈(zF t).2)∧env[j]? =some x∧x.kind=5∧x.base=e.base:=by
 unfold madeV at h⊢
 cases ho:ofE env (zF t).1 with
 |none=>rw[ho]at h;cases h
 |some x=>
  rw[ho]at h
  simp only at h⊢
  split at h
  ·rename_i hx
   rw[if_pos hx]
   have hj: ∃ j:Nat,env[j]? =some x:=by
    unfold ofE at ho
    split at ho
    ·exact⟨_,ho⟩
    ·cases ho
   obtain⟨j,hj⟩:=hj
   have h0:=(zC3 (zez hE hj).1 hx.1).1
   split at h
   ·rename_i con hg
    simp only[Bool.and_eq_true,decide_eq_true_eq]at h⊢
    exact⟨x.which.toNat,con,j,x,by omega,hg,h.2,h.1,fun a ha=>ha,hj,hx.1,hx.2.1⟩
   ·cases h
  ·cases h
theorem zxS: ∀ {l:List En} {f:Int→Option Bl} {i:Nat},zcQ f i l=true→ ∀ (j:Nat) e,l[j]? =some e→3≤e.kind→(∀ b,f e.base=some b→e.block=b)∧ ∀ (k:Nat) x,l[k]? =some x→3≤x.kind→x.base=e.base→x.block=e.block
 |[],_,_,_,j,e,h,_=>by simp at h
 |a::l,f,i,h,j,e,he,hk=>by
  simp only[zcQ,Bool.and_eq_true]at h
  have ih:=zxS h.2
  have keep: ∀ (x:En) b,f x.base=some b→zfm f a x.base=some b∨x.base=a.base∧zfm f a x.base=some a.block:=by
   intro x b hb
   unfold zfm
   split
   ·exact .inl hb
   ·simp only
    split
    ·rename_i q;exact .inr ⟨q,rfl⟩
    ·exact .inl hb
  have first:3≤a.kind→ ∀ b,f a.base=some b→a.block=b:=by
   intro q b hb
   have h1:=h.1
   simp only[zbG,Bool.and_eq_true,Bool.or_eq_true,decide_eq_true_eq]at h1
   rcases h1.2 with r|r
   ·omega
   ·unfold zfH at r
    rw[hb]at r
    simp only at r
    have:=of_decide_eq_true r
    first|exact this|exact this.symm
  have put:3≤a.kind→zfm f a a.base=some a.block:=by
   intro q
   unfold zfm
   rw[if_neg (by omega)]
   simp
  have later: ∀ (k:Nat) x,l[k]? =some x→3≤x.kind→(∀ b,f x.base=some b→x.block=b)∧(3≤a.kind→x.base=a.base→x.block=a.block):=by
   intro k x hx q
   refine⟨fun b hb=>?_,fun q2 e=>(ih k x hx q).1 _ (by rw[e];exact put q2)⟩
   rcases keep x b hb with r|⟨r1,r2⟩
   ·exact(ih k x hx q).1 b r
   ·by_cases q2:3≤a.kind
    ·rw[(ih k x hx q).1 _ r2];exact first q2 b (r1▸hb)
    ·have:zfm f a=f:=by unfold zfm;rw[if_pos (by omega)]
     rw[this]at r2
     rw[hb]at r2
     rw[(ih k x hx q).1 b (by rw[this];exact hb)]
  cases j with
  |zero=>
   obtain rfl:=Option.some.inj (show some a=some e from he)
   refine⟨first hk,fun k x hx q hb=>?_⟩
   cases k with
   |zero=>obtain rfl:=Option.some.inj (show some a=some x from hx);rfl
   |succ k=>exact(later k x (by simpa using hx) q).2 hk hb
  |succ j=>
   have he':l[j]? =some e:=by simpa using he
   refine⟨(later j e he' hk).1,fun k x hx q hb=>?_⟩
   cases k with
   |zero=>
    obtain rfl:=Option.some.inj (show some a=some x from hx)
    exact((later j e he' hk).2 q hb.symm).symm
   |succ k=>exact(ih j e he' hk).2 k x (by simpa using hx) q hb
theorem zyx{env:List En}(hE:envI env=0){j k:Nat}{e x:En}(he:env[j]? =some e)(hx:env[k]? =some x)(h1:3≤e.kind)(h2:3≤x.kind)(hb:x.base=e.base):x.block=e.block:=by
 have hr:zcQ (fun _=>none) 0 env=true:=by
  unfold envI at hE
  split at hE
  ·cases hE
  ·split at hE
   ·assumption
   ·cases hE
 exact(zxS hr j e he h1).2 k x hx h2 hb
theorem zxR{env:List En}{t:Tm}{r:Tm×Int}{v:Int}(hE:envI env=0)(hv:0≤v)(h:zbE env t=some r)(h0:r.2=0)(hs:zbx t v (env.length:Nat)=true):zbx r.1 v (env.length:Nat)=true:=by
 obtain⟨s1,s2⟩:=zrJ.2 hs
 unfold zbE at h
 cases ho:ofE env (zF t).1 with
 |none=>rw[ho]at h;cases h
 |some e=>
  rw[ho]at h
  simp only at h
  have hj: ∃ j:Nat,env[j]? =some e:=by
   unfold ofE at ho
   split at ho
   ·exact⟨_,ho⟩
   ·cases ho
  obtain⟨j,hj⟩:=hj
  obtain⟨hre,hkn⟩:=zez hE hj
  have hlast: ∀ a,a∈(zF (lastT (zF t).2)).2→(zF t).2≠[]→zbx a v (env.length:Nat)=true:=by
   intro a ha hne
   have hm:lastT (zF t).2∈(zF t).2:=by
    unfold lastT
    rw[List.getD_eq_getElem?_getD,List.getElem?_eq_getElem (by have:=List.length_pos_iff.2 hne;omega)]
    exact List.getElem_mem _
   exact(zrJ.2 (s2 _ hm)).2 a ha
  split at h
  ·rename_i k6
   split at h
   ·cases h
   ·rename_i hcn
    split at h
    ·rename_i hln
     have hne:(zF t).2≠[]:=by intro q;rw[q]at hln;simp at hln
     unfold ziX at h
     split at h
     ·rename_i hmv
      obtain⟨k,con,i,x,m1,m2,m3,m4,m5,m6,m7,m8⟩:=zx6 hE hmv
      rw[m1,Int.toNat_natCast,m2]at h
      simp only[Option.map_some,Option.some.injEq]at h
      have hkb:=hkn.resolve_left (by omega)
      have hsh:=zng hkb
      have hcm:=List.mem_of_getElem? m2
      have hnm:zkb e.block <e.base+(countN e.block:Nat):=by
       unfold zb4 at hkb
       simp only[Bool.and_eq_true,decide_eq_true_eq]at hkb
       exact hkb.2
      have hco:=zq5 hsh hcm
      unfold zel at hco
      simp only[Bool.and_eq_true,decide_eq_true_eq]at hco
      have hmv2: ∀ a,a∈(madeV env e (lastT (zF t).2)).2.1→zbx a v (env.length:Nat)=true:=fun a ha=>hlast a (m5 a ha) hne
      generalize (madeV env e (lastT (zF t).2)).2.1=us at h m3 hmv2
      rw[←h]at h0⊢
      unfold makeT at h0⊢
      split at h0
      ·rename_i q;exact absurd h0 q
      ·rename_i q
       rw[if_neg q]
       split at h0
       ·rename_i q2;exact absurd h0 q2
       ·rename_i q2
        rw[if_neg q2]
        refine zwx _ _ ?_ ?_
        ·show zbx (List.getD _ _ zT) v _=true
         rw[List.getD_eq_getElem?_getD]
         cases hg:((zF t).2.drop e.block.sorts.length)[k]? with
         |none=>exact zyg _ _
         |some y=>exact s2 y (List.mem_of_mem_drop (List.mem_of_getElem? hg))
        ·refine zxJ hv (by omega) (by omega) (fun y hy=>s2 y (List.mem_of_mem_take hy)) (fun y hy=>s2 y (List.mem_of_mem_drop (List.mem_of_mem_take hy))) hmv2 con.args 0 _ (by omega) (fun i2 a ha hrc=>?_) (Classical.not_not.1 q) (fun y hy=>by simp at hy)
         have hab:=zjP hco.2.1 ha
         unfold zbQ at hab
         rw[if_pos hrc]at hab
         simp only[Bool.and_eq_true,decide_eq_true_eq]at hab
         have ham:=List.mem_of_getElem? ha
         refine⟨fun k2 d hd=>?_,fun y hy=>?_⟩
         ·obtain⟨a0,hm0⟩:=zxe ((zxb hcm).2 a ham d (.inl (List.mem_of_getElem? hd)))
          exact zwY (ziz hab.2.1 hd) (a:=a0) (by omega) (by omega)
         ·obtain⟨a0,hm0⟩:=zxe ((zxb hcm).2 a ham y (.inr hy))
          exact zwY (List.all_eq_true.1 hab.2.2 y hy) (a:=a0) (by omega) (by omega)
     ·cases h
    ·cases h
  ·split at h
   ·rename_i k4
    split at h
    ·rename_i hln
     have hne:(zF t).2≠[]:=by intro q;rw[q]at hln;simp at hln
     unfold zpU at h
     split at h
     ·rename_i hmv
      obtain⟨k,con,i,x,m1,m2,m3,m4,m5,m6,m7,m8⟩:=zx6 hE hmv
      rw[m1,Int.toNat_natCast,m2]at h
      simp only[Option.map_some,Option.some.injEq]at h
      have hkb:=hkn.resolve_left (by omega)
      have hsh:=zng hkb
      have hcm:=List.mem_of_getElem? m2
      have hdec:=(zr5 hre k4).2.2
      obtain⟨b0,b1⟩:0≤e.base∧e.base≤65535:=by
       unfold zb4 at hkb
       simp only[Bool.and_eq_true,decide_eq_true_eq]at hkb
       exact ziq hkb.1
      have hnm:zkb e.block <e.base+(countN e.block:Nat):=by
       unfold zb4 at hkb
       simp only[Bool.and_eq_true,decide_eq_true_eq]at hkb
       exact hkb.2
      have hco:=zq5 hsh hcm
      unfold zel at hco
      simp only[Bool.and_eq_true,decide_eq_true_eq]at hco
      rw[m4,if_pos hdec]at hco
      have hcl:zay e.block e.base con.args 0 con.dec=true:=by
       unfold zb4 at hkb
       simp only[Bool.and_eq_true,decide_eq_true_eq]at hkb
       have hp:=hkb.1
       unfold zbz at hp
       rw[if_pos hsh,if_neg (by omega),if_neg (by omega)]at hp
       split at hp
       ·rename_i hq
        rw[Bool.and_eq_true]at hq
        have:=zDV.1 hq.2 k con m2
        unfold zgS at this
        rw[m4,hdec]at this
        simp only[Bool.and_eq_true,Bool.not_true,Bool.false_or]at this
        exact this.2.2
       ·cases hp
      have hlen:e.base+e.block.sorts.length+zaX e.block.sorts≤(env.length:Nat):=by
       have hxl:i <env.length:=(List.getElem?_eq_some_iff.1 m6).1
       have hbl:=zyx hE hj m6 (by omega) (by omega) m8
       have hn:=(zeY (zez hE m6).1 (by omega)).1
       unfold zce at hn
       rw[if_neg (by omega),if_neg (by omega),if_pos m7,hbl,m8]at hn
       have:=zhV hn
       omega
      obtain⟨a0,hm0⟩:=zxe ((zxb hcm).1 _ rfl)
      have hd1:zbx con.dec (con.args.length:Nat) (e.base+(countN e.block:Nat))=true:=zwY hco.2.2.2 (a:=a0) (by omega) (by omega)
      have hsz:con.dec.size≤1048576:=by
       have h2:=hco.2.2.2
       unfold openT zcY at h2
       simp only[Bool.and_eq_true,decide_eq_true_eq]at h2
       have:=(zcH h2.2.2.1).1
       omega
      have hd2:=zxY b0 b1 hlen 1048576 0 con.dec hsz hcl _ hd1
      rw[←h]at h0⊢
      have:=zwI h0 hv (zv8 con.dec _ _ _ _ (by omega) (Int.le_refl _) hd2) (fun a ha=>hlast a (m5 a ha) hne)
      rwa[Int.add_zero]at this
     ·cases h
    ·cases h
   ·cases h
theorem zyb{env:List En}{t:Tm}{r:Tm×Int}{v:Int}(hE:envI env=0)(hv:0≤v)(h:lookR env t=some r)(h0:r.2=0)(hs:zbx t v (env.length:Nat)=true):zbx r.1 v (env.length:Nat)=true:=by
 unfold lookR at h
 by_cases k6:t.kind=6
 ·rw[if_pos k6]at h
  split at h
  ·rename_i f a hk
   have hf:=zb9 hs (by omega) 0
   have ha:=zb9 hs (by omega) 1
   rw[hk]at hf ha
   simp only[k6,zU,List.getD_cons_zero,List.getD_cons_succ]at hf ha
   have hf:zbx f v (env.length:Nat)=true:=by simpa using hf
   have ha:zbx a v (env.length:Nat)=true:=by simpa using ha
   split at h
   ·rename_i k5
    obtain rfl:=Option.some.inj h
    have hb:=zb9 hf (by omega) 1
    rw[k5]at hb
    have hb:zbx (f.kids.getD 1 zT) (v+1) (env.length:Nat)=true:=by simpa[zU]using hb
    have e:t.kids.drop 1=[a]:=by rw[hk];rfl
    rw[e]at h0⊢
    have:=zwI h0 hv (by simpa using hb) (fun x hx=>by obtain rfl:=List.mem_singleton.1 hx;exact ha)
    rwa[Int.add_zero]at this
   ·exact zxR hE hv h h0 hs
  ·cases h
 rw[if_neg k6]at h
 by_cases k9:t.kind=9
 ·rw[if_pos k9]at h
  split at h
  ·rename_i p hk
   split at h
   ·rename_i k8
    obtain rfl:=Option.some.inj h
    have hp:=zb9 hs (by omega) 0
    rw[hk,k9]at hp
    have hp:zbx p v (env.length:Nat)=true:=by simpa[zU]using hp
    have:=zb9 hp (by omega) 1
    rw[k8]at this
    simpa[zU]using this
   ·cases h
  ·cases h
 rw[if_neg k9]at h
 by_cases k10:t.kind=10
 ·rw[if_pos k10]at h
  split at h
  ·rename_i p hk
   split at h
   ·rename_i k8
    obtain rfl:=Option.some.inj h
    have hp:=zb9 hs (by omega) 0
    rw[hk,k10]at hp
    have hp:zbx p v (env.length:Nat)=true:=by simpa[zU]using hp
    have:=zb9 hp (by omega) 2
    rw[k8]at this
    simpa[zU]using this
   ·cases h
  ·cases h
 rw[if_neg k10]at h
 by_cases k13:t.kind=13
 ·rw[if_pos k13]at h
  split at h
  ·rename_i m b p hk
   split at h
   ·rename_i k12
    obtain rfl:=Option.some.inj h
    have hb:=zb9 hs (by omega) 1
    have hp:=zb9 hs (by omega) 2
    rw[hk,k13]at hb hp
    have hb:zbx b v (env.length:Nat)=true:=by simpa[zU]using hb
    have hp:zbx p v (env.length:Nat)=true:=by simpa[zU]using hp
    have:=zb9 hp (by omega) 1
    rw[k12]at this
    exact zxO hb (by simpa[zU]using this)
   ·cases h
  ·cases h
 rw[if_neg k13]at h
 by_cases k3:t.kind=3
 ·rw[if_pos k3]at h
  split at h
  ·rename_i e ho
   split at h
   ·rename_i k2
    obtain rfl:=Option.some.inj h
    have hj: ∃ j:Nat,env[j]? =some e:=by
     unfold ofE at ho
     split at ho
     ·exact⟨_,ho⟩
     ·cases ho
    obtain⟨j,hj⟩:=hj
    have hl:=(List.getElem?_eq_some_iff.1 hj).1
    have hre:=(zez hE hj).1
    unfold zcj at hre
    rw[if_neg (by omega),if_pos k2]at hre
    simp only[Bool.and_eq_true,zcY,decide_eq_true_eq]at hre
    have h2:=hre.2.2.2.2.2.2.2
    rw[if_neg (by omega)]at h2
    exact zv8 e.body _ _ _ _ hv (by omega) h2
   ·cases h
  ·cases h
 ·rw[if_neg k3]at h;cases h
end Go.Proofs.YtokfbblhjpfjkaaGreat
