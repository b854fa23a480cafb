/- What is in scope is reduced to what is in scope, over a right row: in plain word -/
import Derived.Test.YtokfbblhjpfjkaaGreatLScopeL
import Derived.Test.YtokfbblhjpfjkaaGreatLFirstR
import Derived.Test.YtokfbblhjpfjkaaGreatGK
set_option linter.unusedSimpArgs false
set_option linter.unusedVariables false
namespace Go.Proofs.YtokfbblhjpfjkaaGreat
open Go.Aw Go.RowKit
theorem zyg(v c:Int):zbx zT v c=true:=by
 show zbx (.mk 0 0 []) v c=true
 rw[zbx,if_neg (by decide),if_neg (by decide),if_neg (by decide),zaD]
theorem zxx: ∀ {l:List Tm} {k i v c:Int},zaD k i l v c=true→ ∀ (j:Nat) x,l[j]? =some x→zbx x (v+zU k (i+j)) c=true
 |[],_,_,_,_,_,j,x,h=>by simp at h
 |t::l,k,i,v,c,h,j,x,hx=>by
  rw[zaD,Bool.and_eq_true]at h
  cases j with
  |zero=>obtain rfl:=Option.some.inj (show some t=some x from hx);simpa using h.1
  |succ j=>
   have:=zxx h.2 j x (by simpa using hx)
   rwa[show i+1+(j:Int)=i+((j+1:Nat):Int) by omega]at this
theorem zya{t:Tm}{v c:Int}(h:zbx t v c=true)(hk:t.kind≠1∧t.kind≠2∧t.kind≠3):zaD t.kind 0 t.kids v c=true:=by
 rw[zkm,if_neg hk.1,if_neg hk.2.1,if_neg hk.2.2]at h;exact h
theorem zb9{t:Tm}{v c:Int}(h:zbx t v c=true)(hk:t.kind≠1∧t.kind≠2∧t.kind≠3)(j:Nat):zbx (t.kids.getD j zT) (v+zU t.kind j) c=true:=by
 by_cases hj:j <t.kids.length
 ·have:=zxx (zya h hk) j _ (List.getElem?_eq_getElem hj)
  rw[Int.zero_add]at this
  rwa[List.getD_eq_getElem?_getD,List.getElem?_eq_getElem hj]
 ·rw[List.getD_eq_getElem?_getD,List.getElem?_eq_none (by omega)];exact zyg _ _
theorem zyR{t f a:Tm}{v c:Int}(h:zbC t 6=true)(hk:t.kids=[f,a]):zbx t v c=true↔zbx f v c=true∧zbx a v c=true:=by
 have h6:t.kind=6:=by unfold zbC at h;rw[Bool.and_eq_true]at h;exact of_decide_eq_true h.1
 rw[zkm,h6,hk,if_neg (by decide),if_neg (by decide),if_neg (by decide),zaD,zaD,zaD]
 simp[zU]
theorem zxL{v c:Int}: ∀ (n:Nat) (t:Tm) (acc:List Tm),(zbx (spN n t acc).1 v c=true∧ ∀ a,a∈(spN n t acc).2→zbx a v c=true)↔(zbx t v c=true∧ ∀ a,a∈acc→zbx a v c=true)
 |0,t,acc=>Iff.rfl
 |n+1,t,acc=>by
  by_cases h2:zbC t 6=true
  ·obtain⟨f,a,hk⟩:=zb0 h2
   rw[zcn h2 hk,zxL n f (acc++[a]),zyR h2 hk]
   constructor
   ·rintro ⟨h1,h3⟩
    exact⟨⟨h1,h3 a (by simp)⟩,fun x hx=>h3 x (by simp[hx])⟩
   ·rintro ⟨⟨h1,h4⟩,h3⟩
    refine⟨h1,fun x hx=>?_⟩
    rcases List.mem_append.1 hx with q|q
    ·exact h3 x q
    ·obtain rfl:=List.mem_singleton.1 q;exact h4
  ·have h2:zbC t 6=false:=by simpa using h2
   rw[zc5 h2]
theorem zrJ{t:Tm}{v c:Int}:(zbx (zF t).1 v c=true∧ ∀ a,a∈(zF t).2→zbx a v c=true)↔zbx t v c=true:=by
 have:=zxL (v:=v) (c:=c) t.size t []
 unfold zF
 simp only[List.mem_reverse]
 rw[this];simp
theorem zw5{m e:Int}(h:zjx m e=0):m=0∧e=0:=by unfold zjx at h;split at h <;>omega
theorem zwT: ∀ {l:List Tm} {b m:Int},zbv l b m=0→m=0∧ ∀ t,t∈l→(zbs t b 0).2=0
 |[],_,_,h=>⟨h,fun t q=>by simp at q⟩
 |t::l,b,m,h=>by
  obtain⟨h1,h2⟩:=zwT (l:=l) (b:=b) (m:=zjx m (zbs t b 0).2) h
  obtain⟨h3,h4⟩:=zw5 h1
  refine⟨h3,fun x hx=>?_⟩
  rcases List.mem_cons.1 hx with rfl|hx
  ·exact h4
  ·exact h2 x hx
theorem zxT{ahead:List Tm}{r:Int}: ∀ {l:List Tm} {m:Int},znT ahead r l m=0→m=0∧ ∀ t,t∈l→(instT t ahead r).2=0
 |[],_,h=>⟨h,fun t q=>by simp at q⟩
 |t::l,m,h=>by
  obtain⟨h1,h2⟩:=zxT (l:=l) (m:=zjx m (instT t ahead r).2) h
  obtain⟨h3,h4⟩:=zw5 h1
  refine⟨h3,fun x hx=>?_⟩
  rcases List.mem_cons.1 hx with rfl|hx
  ·exact h4
  ·exact h2 x hx
theorem zxW{ahead:List Tm}: ∀ {l:List Tm} {j m:Int},zf8 ahead j l m=0→m=0∧ ∀ (i:Nat) d,l[i]? =some d→(instT d ahead (j+i)).2=0
 |[],_,_,h=>⟨h,fun i d q=>by simp at q⟩
 |t::l,j,m,h=>by
  rw[zf8]at h
  obtain⟨h1,h2⟩:=zxW h
  obtain⟨h3,h4⟩:=zw5 h1
  refine⟨h3,fun i d hd=>?_⟩
  cases i with
  |zero=>obtain rfl:=Option.some.inj (show some t=some d from hd);simpa using h4
  |succ i=>
   have:=h2 i d (by simpa using hd)
   rwa[show j+1+(i:Int)=j+((i+1:Nat):Int) by omega]at this
theorem zx7{ahead:List Tm}: ∀ {l:List Tm} {j:Int} {i:Nat} {x:Tm},(zeg ahead j l)[i]? =some x→ ∃ d,l[i]? =some d∧x=(instT d ahead (j+i)).1
 |[],j,i,x,h=>by simp[zeg]at h
 |t::l,j,i,x,h=>by
  rw[zeg]at h
  cases i with
  |zero=>exact⟨t,rfl,by simpa using(Option.some.inj (show some (instT t ahead j).1=some x from h)).symm⟩
  |succ i=>
   obtain⟨d,h1,h2⟩:=zx7 (by simpa using h)
   exact⟨d,by simpa using h1,by rw[h2,show j+1+(i:Int)=j+((i+1:Nat):Int) by omega]⟩
theorem zwY{t:Tm}{n v c:Int}{a:Int}(h:openT t n=true)(hm:mostT t a <c)(hv:n≤v):zbx t v c=true:=by
 have h2:zbx t n 65536=true:=by
  unfold openT zcY at h
  simp only[Bool.and_eq_true,decide_eq_true_eq]at h
  have h3:=h.2.2.2
  split at h3
  ·rw[zgF t n 1048576 65536 (zcH h.2.2.1).2.2 (by omega) (by omega)];exact h3
  ·exact h3
 exact zv8 t n v c c hv (Int.le_refl _) (zxt t n 65536 c a hm h2)
section
variable {b:Bl} {base:Int} {c:Int} {v:Int} (hv:0≤v) (hc0:0≤c) (hcn:base+(countN b:Nat)≤c)
include hv hc0 hcn
theorem zx1{a:Ar}{motives methods ahead:List Tm}{t:Tm}{m:Int}{i:Nat}(hal:ahead.length=i)(h1: ∀ x,x∈motives→zbx x v c=true)(h2: ∀ x,x∈methods→zbx x v c=true)(h3: ∀ x,x∈ahead→zbx x v c=true)(ht:zbx t v c=true)
 (hd: ∀ (j:Nat) d,a.dom[j]? =some d→zbx d ((i:Nat)+(j:Nat)) c=true) (hx: ∀ x,x∈a.idx→zbx x ((i:Nat)+(a.dom.length:Nat)) c=true)
 (he:zlB a motives methods ahead t m=0):m=0∧zbx (zfi b base a motives methods ahead t) v c=true:=by
 unfold zlB at he
 obtain⟨e1,e2⟩:=zw5 he
 obtain⟨e3,e4⟩:=zxT e1
 obtain⟨e5,e6⟩:=zwT e3
 obtain⟨e7,e8⟩:=zwT e5
 obtain⟨e9,e10⟩:=zxW e7
 refine⟨e9,?_⟩
 unfold zfi
 refine zxv _ _ (fun j x hj=>?_) ?_
 ·obtain⟨d,g1,rfl⟩:=zx7 hj
  have:=e10 j d g1
  rw[Int.zero_add]at this⊢
  exact zwI this hv (zv8 d _ _ _ _ (by omega) (Int.le_refl _) (hd j d g1)) h3
 ·rw[zd4]
  refine zwx _ _ ?_ fun x hxm=>?_
  ·rw[zbx,if_neg (by decide),if_neg (by decide),if_pos rfl]
   refine decide_eq_true ?_
   unfold zaz zb3
   unfold countN at hcn
   repeat' split
   all_goals omega
  ·unfold zc1 at hxm
   simp only[List.mem_append,List.mem_singleton]at hxm
   rcases hxm with((hxm|hxm)|hxm)|rfl
   ·obtain⟨y,hy,rfl⟩:=List.mem_map.1 hxm
    exact zwV (e8 y hy) (h1 y hy)
   ·obtain⟨y,hy,rfl⟩:=List.mem_map.1 hxm
    exact zwV (e6 y hy) (h2 y hy)
   ·obtain⟨y,hy,rfl⟩:=List.mem_map.1 hxm
    exact zwI (e4 y hy) hv (zv8 y _ _ _ _ (by omega) (Int.le_refl _) (hx y hy)) h3
   ·refine zwx _ _ (zwV e2 ht) fun y hy=>?_
    obtain⟨j,hj,rfl⟩:=List.mem_map.1 hy
    have:=List.mem_range.1 hj
    exact zwy (by omega)
theorem zxJ{motives methods args:List Tm}(h1: ∀ x,x∈motives→zbx x v c=true)(h2: ∀ x,x∈methods→zbx x v c=true)(h3: ∀ x,x∈args→zbx x v c=true):
 ∀ (l:List Ar) (i:Nat) (s:List Tm×Int),i+l.length≤args.length→(∀ (j:Nat) a,l[j]? =some a→a.rc=true→(∀ (k:Nat) d,a.dom[k]? =some d→zbx d ((i+j:Nat)+(k:Nat)) c=true)∧ ∀ x,x∈a.idx→zbx x ((i+j:Nat)+(a.dom.length:Nat)) c=true)→
 (mkL b base motives methods args i l s).2=0→(∀ x,x∈s.1→zbx x v c=true)→ ∀ x,x∈(mkL b base motives methods args i l s).1→zbx x v c=true
 |[],i,s,_,_,_,hs=>hs
 |a::l,i,s,hl,hq,he,hs=>by
  rw[mkL]at he⊢
  simp only[List.length_cons]at hl
  have ha:zbx (args.getD i zT) v c=true:=h3 _ (by rw[List.getD_eq_getElem?_getD,List.getElem?_eq_getElem (by omega)];exact List.getElem_mem _)
  refine zxJ h1 h2 h3 l (i+1) _ (by omega) (fun j x hj=>?_) he ?_
  ·have:=hq (j+1) x (by simpa using hj)
   rwa[show i+(j+1)=i+1+j by omega]at this
  ·
   have hz:(mk1 b base motives methods args i a s).2=0:=by
    have mono: ∀ (l:List Ar) (i:Nat) (s:List Tm×Int),(mkL b base motives methods args i l s).2=0→s.2=0:=by
     intro l
     induction l with
     |nil=>intro i s h;exact h
     |cons a l ih=>
      intro i s h
      have:=ih _ _ h
      unfold mk1 at this
      split at this
      ·rename_i q;exact q.2
      ·exact this
    exact mono _ _ _ he
   intro x hx
   unfold mk1 at hz hx
   split at hx
   ·rename_i q
    rw[if_pos q]at hz
    obtain⟨q1,q2⟩:=hq 0 a rfl q.1
    have:=(zx1 hv hc0 hcn (a:=a) (ahead:=args.take i) (i:=i) (by rw[List.length_take];omega) h1 h2 (fun x hx=>h3 x (List.mem_of_mem_take hx)) ha (by simpa using q1) (by simpa using q2) hz).2
    simp only[List.mem_append,List.mem_singleton]at hx
    rcases hx with(hx|rfl)|rfl
    ·exact hs x hx
    ·exact ha
    ·exact this
   ·simp only[List.mem_append,List.mem_singleton]at hx
    rcases hx with hx|rfl
    ·exact hs x hx
    ·exact ha
end
end Go.Proofs.YtokfbblhjpfjkaaGreat
