/- The document's answer: clean terms are those that the program calls clean.; The  -/
import Derived.Test.YtokfbblhjpfjkaaGreatHK
import Derived.Test.YtokfbblhjpfjkaaGreatHH
import Derived.Test.YtokfbblhjpfjkaaGreatHG
set_option linter.unusedSimpArgs false
set_option linter.unusedVariables false
namespace Go.Proofs.YtokfbblhjpfjkaaGreat
open Go.Aw Go.RowKit
def zBg:List (Nat×List Nat):=[(0,[]),(1,[]),(2,[]),(3,[1,2]),(4,[1,2,3]),(5,[0,1,2,3,4]),(6,[0,1,2,3,4,5])]
def zBb:List (Nat×List Nat):=[(0,[]),(1,[]),(2,[]),(3,[1,2]),(4,[1,2,3]),(5,[0,1,2,3,4]),(6,[0,1,2,3,4,5])]
attribute [local irreducible] WL AC WD WE MStep OkOp
theorem zfo{args:List Ar}{m:Int}{t:Tm}(h:t.kind≠1):(zal args m t).2=false:=by
 unfold zal;rw[if_neg (fun q=>h q.1)]
theorem zgr{args:List Ar}{m:Nat}{t:Tm}(hk:t.kind=1)(h0:0≤t.num):(zbX (zaY args m) t.num <0)↔(zal args m t).2=false:=by
 rw[zlj hk h0]
 cases hg:(zal args m t).2 with
 |false=>simp
 |true=>
  have:=(zfC hg).1
  rw[if_pos rfl]
  simp only[Bool.true_eq_false,iff_false];omega
def decDR(g:Tm→Bool)(args:List Ar)(m:Int)(l:List Tm):Bool:=(l.take (l.length-1)).all g&&((zal args m (zF (l.getD (l.length-1) zT)).1).2&&(zF (l.getD (l.length-1) zT)).2.all g)
theorem zt3{g:Tm→Bool}{p:Pl}{t:Tm}(h1:(zF t).1.kind=3)(h2:(ofB p.b p.base (zF t).1.num).1=4)(h3:(zF t).2.length=idxN p.b (ofB p.b p.base (zF t).1.num).2+1):zbP g p t=decDR g p.args p.more (zF t).2:=by
 unfold zbP decDR
 rw[decide_eq_true h1,decide_eq_true h2,decide_eq_true h3]
 simp only[Bool.true_and]
 cases (zal p.args p.more (zF ((zF t).2.getD ((zF t).2.length-1) zT)).1).2 <;>simp
theorem zkT(b:Bl)(base:Int)(args:List Ar): ∀ (n:Nat) (t:Tm) (m:Int),t.size≤n→(zF t).1.kind=3→(ofB b base (zF t).1.num).1=4→(zF t).2.length <idxN b (ofB b base (zF t).1.num).2+1→zaI b base args n m t=false
 |0,t,m,h,_,_,_=>absurd t.size_pos (by omega)
 |n+1,t,m,h,h1,h2,h3=>by
  by_cases h6:zbC t 6=true
  ·obtain⟨f,a,hk⟩:=zb0 h6
   have k6:t.kind=6:=by
    simp only[zbC,Bool.and_eq_true,decide_eq_true_eq]at h6;exact h6.1
   have hs:=t.size_eq
   rw[hk]at hs
   simp only[sizes]at hs
   have hsp:=zf3 h6 hk
   have hd:zbP (zaI b base args n m) ⟨b,base,args,m⟩ t=false:=by
    unfold zbP
    rw[show decide ((zF t).2.length=idxN b (ofB b base (zF t).1.num).2+1)=false from decide_eq_false (by omega)]
    simp
   have ih:=zkT b base args n f m (by omega) (by rw[hsp]at h1;exact h1) (by rw[hsp]at h2;exact h2) (by rw[hsp]at h3;simp only[List.length_append,List.length_cons,List.length_nil]at h3;omega)
   rw[zaI,if_neg (by omega),if_neg (by omega),if_neg (fun q=>by rw[hd]at q;exact Bool.false_ne_true q.2),hk,k6]
   simp only[zba]
   rw[show m+zU 6 0=m by simp[zU],ih];rfl
  ·have h6:zbC t 6=false:=by simpa using h6
   rw[zhF h6]at h1 h2
   have h1:t.kind=3:=h1
   have h2:(ofB b base t.num).1=4:=h2
   rw[zaI,if_neg (by omega),if_pos h1]
   exact decide_eq_false (by omega)
theorem zkJ{b:Bl}{base:Int}{args:List Ar}{n:Nat}{m:Int}{t:Tm}(h:t.size≤n+1)(k6:zbC t 6=true)(h1:(zF t).1.kind=3)(h2:(ofB b base (zF t).1.num).1=4)(h3:(zF t).2.length=idxN b (ofB b base (zF t).1.num).2+1):
 zaI b base args (n+1) m t=decDR (zaI b base args n m) args m (zF t).2:=by
 have k:=k6
 obtain⟨f,a,hk⟩:=zb0 k6
 simp only[zbC,Bool.and_eq_true,decide_eq_true_eq]at k
 have hs:=t.size_eq
 rw[hk]at hs
 simp only[sizes]at hs
 have hsp:=zf3 k6 hk
 have hg:=zt3 (g:=zaI b base args n m) (p:=⟨b,base,args,m⟩) h1 h2 h3
 rw[zaI,if_neg (by omega),if_neg (by omega)]
 cases hd:zbP (zaI b base args n m) ⟨b,base,args,m⟩ t with
 |true=>rw[if_pos ⟨k.1,rfl⟩, ←hg,hd]
 |false=>
  rw[if_neg (fun q=>Bool.false_ne_true q.2), ←hg,hd,hk,k.1]
  have:=zkT b base args n f m (by omega) (by rw[hsp]at h1;exact h1) (by rw[hsp]at h2;exact h2) (by rw[hsp]at h3;simp only[List.length_append,List.length_cons,List.length_nil]at h3;omega)
  simp only[zba]
  rw[show m+zU 6 0=m by simp[zU],this];rfl
set_option maxRecDepth 4000 in
set_option maxHeartbeats 4000000 in
theorem zjy(b:Bl)(base:Int)(args:List Ar)(m:Nat)(l:List Tm)(g:Tm→Bool)(D:Nat)(hl:args.length≤1048576)(hm:m≤2097152)(hne:l≠[])(hs:sizes l≤1048576)(hsub: ∀ a,a∈l→Sub D a)
 (h: ∀ a:Tm,a.size≤sizes l→formedT a=true→a.depth≤D→FC Tryz.prog 131 [aQ (plQ b base args m),aT a] (.bool (g a))):
 FC Tryz.prog 176 [aQ (plQ b base args m),sT l] (.bool (decDR g args m l)):=by
 have hll:=zM l
 have hlp:0 <l.length:=List.length_pos_iff.2 hne
 obtain⟨la,hla,hlm⟩:=zA (show l.length-1 <l.length by omega)
 have hgd:l.getD (l.length-1) zT=la:=by rw[List.getD_eq_getElem?_getD,hla];rfl
 have rla:=zac hla
 have hlas:=zK hlm
 have w1:IntKind.i64.wrap (((rsT l).length:Int)-1)=((l.length-1:Nat):Int):=by rw[zeb];exact(zy (by omega) (by omega)).trans (by omega)
 have hd:decDR g args m l=(!((l.take (l.length-1)).any fun t=> !g t)&&((zal args m (zF la).1).2&& !((zF la).2.any fun t=> !g t))):=by
  unfold decDR;rw[hgd,zbD,zbD]
 have hun:=zeh la (by omega)
 have hsz:=zbb la
 obtain⟨hj1,hj2⟩:=zdG (Sub D) Sub.kid (t:=la) (hsub la hlm)
 have hnum:=zCw hj1.1
 have hvl:=zbV args m
 have hgu:=zdb (plQ b base args m) (zF la).1.num (by show(zaY args m).length≤_;omega) hnum
 have hgn:(zF la).1.kind=1→(zbX (zaY args m) (zF la).1.num <0↔(zal args m (zF la).1).2=false):=fun q=>zgr q hnum.1
 have hgk:(zF la).1.kind≠1→(zal args m (zF la).1).2=false:=zfo
 rw[hd]
 replace hgu:FC Tryz.prog 173 [aQ (plQ b base args m),.int .i64 (zF la).1.num] (.int .i64 (zbX (zaY args m) (zF la).1.num)):=hgu
 generalize zbX (zaY args m) (zF la).1.num=gq at hgu hgn
 generalize (zal args m (zF la).1).2=gb at hgn hgk⊢
 have n0:0≤IntKind.i64.wrap (((rsT l).length:Int)-1):=by rw[w1];exact Int.natCast_nonneg _
 have rlw:(rsT l)[(IntKind.i64.wrap (((rsT l).length:Int)-1)).toNat]? =some (cT la):=by rw[w1];exact rla
 have hll2:=zM (zF la).2
 refine zo hty Tryz.func176 rfl rfl rfl fun w0=>?_
 repeat'(first|refine WL_p hty rfl rfl ?_|refine zh ?_|refine zi ?_|refine za ?_|refine zf ?_)
 refine zW (l.length-1) (fun j=>(l.take j).any (fun t=> !g t)=false) (fun j=>⟨envOf [(1,sT l),(2,.ptr 2 0),(5,.int .i64 (j:Nat))],bkOf [(2,.box (cQ (plQ b base args m)))]⟩) (zfY ⟨zz rfl rfl,zz rfl rfl,zz rfl rfl,trivial⟩ ⟨zw rfl rfl,trivial⟩) rfl ?_
 intro j hj hI
 repeat'(first|refine WL_p hty rfl rfl ?_|refine zi ?_|refine za ?_)
 refine zj rfl rfl rfl rfl (fun hc=>?_) (fun hc=>?_)
 ·have hlt:j <l.length-1:=by rw[w1]at hc;omega
  obtain⟨k,hk,hmem⟩:=zA (show j <l.length by omega)
  have rk:=zac hk
  have hks:=zK hmem
  have hck:=h k hks (hsub k hmem).1 (hsub k hmem).2
  have hat:=zaA (p:=fun t=> !g t) hk
  repeat'(first|refine zD (id:=4) zBg rfl (by kernel_rfl) ?_|refine zan rfl hck rfl (fun _=>?_) (fun _=>?_)|refine zu (.inl ⟨rfl,zI hty rfl rfl⟩) ?_|refine zu (.inl ⟨rfl,zm hty rfl rfl rfl (by assumption) rfl⟩) ?_|refine zS ⟨by kernel_rfl,?_⟩|refine WL_p hty rfl rfl ?_|refine zh ?_|refine zi ?_|refine za ?_|refine zf ?_|refine zxg ?_|refine zd rfl ?_|refine zbZ rfl ?_|refine zg ?_|refine zb rfl ?_)
  ·rename_i hg
   refine⟨hlt,by rw[hat,hI,hg];rfl,(zfY ⟨zz rfl rfl,zz rfl rfl,⟨_,rfl,zO ?_ rfl⟩,trivial⟩ ⟨zw rfl rfl,trivial⟩)⟩
   exact congrArg (AV.int .i64) ((zy (by omega) (by omega)).trans (by omega))
  ·rename_i hg
   have hk2:(l.take (l.length-1))[j]? =some k:=by rw[List.getElem?_take,if_pos hlt];exact hk
   rw[zbI (p:=fun t=> !g t) hk2 (by simp[hg])];rfl
 ·obtain rfl:j=l.length-1:=by rw[w1]at hc;omega
  rw[hI]
  repeat'(first|refine zv 0 rfl hun rfl rfl rfl ?_|refine WL_m rfl (zaq hty rfl rfl rfl n0 rlw rfl) ?_|refine zv 0 rfl hgu rfl rfl rfl ?_|refine WL_p hty rfl rfl ?_|refine zh ?_|refine zi ?_|refine za ?_|refine zf ?_|refine zxg ?_|refine zd rfl ?_|refine zbZ rfl ?_|refine zl ?_|refine zg ?_|refine zx rfl rfl ?_|refine zot rfl rfl rfl ?_|refine zb rfl ?_|refine zj rfl rfl rfl rfl (fun _=>?_) (fun _=>?_))
  ·rw[hgk (by assumption)];rfl
  ·rw[(hgn (Decidable.not_not.1 (by assumption))).1 (by assumption)];rfl
  ·have hgb:gb=true:=by
    have:=hgn (Decidable.not_not.1 (by assumption))
    cases gb
    ·exact absurd (this.2 rfl) (by assumption)
    ·rfl
   rw[hgb]
   refine zW (zF la).2.length (fun j=>((zF la).2.take j).any (fun t=> !g t)=false) (fun j=>⟨envOf [(2,.ptr 2 0),(7,sT (zF la).2),(8,.int .i64 (j:Nat))],bkOf [(2,.box (cQ (plQ b base args m)))]⟩) (zfY ⟨zz rfl rfl,zz rfl rfl,zz rfl rfl,trivial⟩ ⟨zw rfl rfl,trivial⟩) rfl ?_
   intro j hj hI
   repeat'(first|refine WL_p hty rfl rfl ?_|refine zi ?_|refine za ?_)
   refine zj rfl rfl rfl rfl (fun hc=>?_) (fun hc=>?_)
   ·have hlt:j <(zF la).2.length:=by rw[zeb]at hc;omega
    obtain⟨k,hk,hmem⟩:=zA hlt
    have rk:=zac hk
    have hks:=zK hmem
    have hck:=h k (by omega) (hj2 k hmem).1 (hj2 k hmem).2
    have hat:=zaA (p:=fun t=> !g t) hk
    repeat'(first|refine zD (id:=12) zBb rfl (by kernel_rfl) ?_|refine zan rfl hck rfl (fun _=>?_) (fun _=>?_)|refine zu (.inl ⟨rfl,zI hty rfl rfl⟩) ?_|refine zu (.inl ⟨rfl,zm hty rfl rfl rfl (by assumption) rfl⟩) ?_|refine zS ⟨by kernel_rfl,?_⟩|refine WL_p hty rfl rfl ?_|refine zh ?_|refine zi ?_|refine za ?_|refine zf ?_|refine zxg ?_|refine zd rfl ?_|refine zbZ rfl ?_|refine zg ?_|refine zb rfl ?_)
    ·rename_i hg
     refine⟨hlt,by rw[hat,hI,hg];rfl,(zfY ⟨zz rfl rfl,zz rfl rfl,⟨_,rfl,zO ?_ rfl⟩,trivial⟩ ⟨zw rfl rfl,trivial⟩)⟩
     exact congrArg (AV.int .i64) ((zy (by omega) (by omega)).trans (by omega))
    ·rename_i hg
     rw[zbI (p:=fun t=> !g t) hk (by simp[hg])];rfl
   ·obtain rfl:j=(zF la).2.length:=by rw[zeb]at hc;omega
    rw[List.take_length]at hI
    rw[hI]
    repeat'(first|refine WL_p hty rfl rfl ?_|refine zh ?_|refine zi ?_|refine za ?_|refine zbZ rfl ?_|refine zl ?_|refine zg ?_|refine zb rfl ?_)
    rfl
end Go.Proofs.YtokfbblhjpfjkaaGreat
namespace Go.Proofs.YtokfbblhjpfjkaaGreat
open Go.Aw Go.RowKit
def zzE:List (Nat×List Nat):=[(0,[]),(1,[]),(2,[1]),(3,[]),(4,[1,2,3]),(5,[0,1,2,3,4]),(6,[]),(7,[6]),(8,[]),(9,[6,7,8]),(10,[6,7,8,9]),(11,[0,1,2,3,4,5,6,7,8,9,10]),(12,[0,1,2,3,4,5,6,7,8,9,10,11])]
attribute [local irreducible] WL AC WD WE MStep OkOp
theorem zo8{t:Tm}(h:formedT t=true)(k:t.kind=6):zbC t 6=true:=by
 rw[za9]at h
 simp only[Bool.and_eq_true,decide_eq_true_eq]at h
 have h1:=h.1.1
 simp only[k,kidsR]at h1
 simp[zbC,k]
 simp at h1
 omega
set_option maxRecDepth 4000 in
set_option maxHeartbeats 8000000 in
theorem zpa(b:Bl)(base:Int)(args:List Ar)(hb:b.size≤1048576)(hl:args.length≤1048576): ∀ n,n≤1048576→ ∀ (t:Tm) (m:Nat),t.size≤n→formedT t=true→m+t.depth≤2097152→
 FC Tryz.prog 131 [aQ (plQ b base args m),aT t] (.bool (zaI b base args n m t)):=by
 intro n
 induction n with
 |zero=>intro hn t m ht;have:=t.size_pos;omega
 |succ n ih=>
 intro hn t m ht hfm hm
 have ih:=ih (by omega)
 have hs:=t.size_eq
 have hdp:=t.depth_eq
 have hlen:=zM t.kids
 have hnum:=zCw hfm
 have hvl:=zbV args m
 by_cases k1:t.kind=1
 ·have hc:zaI b base args (n+1) m t= !(zal args m t).2:=by rw[zaI,if_pos k1]
  have hgu:FC Tryz.prog 173 [aQ (plQ b base args m),.int .i64 t.num] (.int .i64 (zbX (zaY args m) t.num)):=zdb (plQ b base args m) t.num (by show(zaY args m).length≤_;omega) hnum
  have hgn:=zgr (args:=args) (m:=m) k1 hnum.1
  rw[hc]
  refine zo hty Tryz.func131 rfl rfl rfl fun w0=>?_
  repeat'(first|exact absurd k1 ‹_›|refine zv 0 rfl hgu rfl rfl rfl ?_|refine WL_p hty rfl rfl ?_|refine zh ?_|refine zi ?_|refine za ?_|refine zd rfl ?_|refine zg ?_|refine zb rfl ?_|refine zj rfl rfl rfl rfl (fun _=>?_) (fun _=>?_))
  ·rw[hgn.1 (by assumption)];rfl
  ·cases hq:(zal args m t).2 with
   |true=>rfl
   |false=>exact absurd (hgn.2 hq) (by assumption)
 by_cases k3:t.kind=3
 ·have hc:zaI b base args (n+1) m t=decide ((ofB b base t.num).1=0):=by rw[zaI,if_neg k1,if_pos k3]
  have hof:=zgU b base t.num hb
  rw[hc]
  refine zo hty Tryz.func131 rfl rfl rfl fun w0=>?_
  repeat'(first|exact absurd (by assumption) k1|exact absurd k3 ‹_›|refine zv 0 rfl hof rfl rfl rfl ?_|refine WL_p hty rfl rfl ?_|refine zh ?_|refine zi ?_|refine za ?_|refine zxg ?_|refine zd rfl ?_|refine zbZ rfl ?_|refine zg ?_|refine zb rfl ?_|refine zj rfl rfl rfl rfl (fun _=>?_) (fun _=>?_))
  all_goals simp[*]
 have hun:=zeh t (by omega)
 have hsz:=zbb t
 obtain⟨hi1,hi2⟩:=zdG (Sub t.depth) Sub.kid (t:=t) ⟨hfm,Nat.le_refl _⟩
 have hhp:=(zF t).1.size_pos
 have hnum1:=zCw hi1.1
 by_cases hdec:(zF t).1.kind=3∧0 <(zF t).2.length∧(ofB b base (zF t).1.num).1=4∧(zF t).2.length=idxN b (ofB b base (zF t).1.num).2+1
 ·obtain⟨d1,d2,d3,d4⟩:=hdec
  have k6:zbC t 6=true:=by
   cases h6:zbC t 6 with
   |true=>rfl
   |false=>rw[zhF h6]at d2;exact absurd d2 (Nat.lt_irrefl 0)
  rw[zkJ ht k6 d1 d3 d4]
  have hde:=zjy b base args m (zF t).2 (zaI b base args n m) t.depth hl (by omega) (fun q=>by rw[q]at d2;exact Nat.lt_irrefl 0 d2) (by omega) hi2 (fun a h1 h2 h3=>ih a m (by omega) h2 (by omega))
  obtain⟨q1,q2,_⟩:=zfy (b:=b) (base:=base) (n:=(zF t).1.num)
  have hof:=zgU b base (zF t).1.num hb
  obtain⟨s,hss,hsm⟩:=zA (q2 d3)
  have rs:=zaK hss
  have hix:idxN b (ofB b base (zF t).1.num).2=s.idx.length:=by unfold idxN;rw[hss]
  rw[hix]at d4
  have hsb:=zat hsm
  have hsl:s.idx.length≤1048576:=by
   have h1:=zae s.idx
   have h2:s.size=zaH s.idx+s.decT.size:=rfl
   have h3:b.size=zbh b.sorts+zbg b.cons:=rfl
   omega
  have e1:((rsT (zF t).2).length:Int)=IntKind.i64.wrap (((zX s.idx).length:Int)+1):=by rw[zeb,zN];rw[zy (n:=(s.idx.length:Int)+1) (by omega) (by omega)];omega
  have e0:((rsT (zF t).2).length:Int)>0:=by rw[zeb];omega
  generalize decDR (zaI b base args n m) args m (zF t).2=rr at hde⊢
  refine zo hty Tryz.func131 rfl rfl rfl fun w0=>?_
  repeat'(first|exact absurd (by assumption) k1|exact absurd (by assumption) k3|exact absurd d1 ‹_›|exact absurd d3 ‹_›|exact absurd e1 ‹_›|exact absurd e0 ‹_›|refine zv 0 rfl hun rfl rfl rfl ?_|refine zv 0 rfl hof rfl rfl rfl ?_|refine zv 0 rfl hde rfl rfl rfl ?_|refine WL_m rfl (zaq hty rfl rfl rfl q1 rs rfl) ?_|refine WL_p hty rfl rfl ?_|refine zh ?_|refine zi ?_|refine za ?_|refine zxg ?_|refine zd rfl ?_|refine zbZ rfl ?_|refine zg ?_|refine zx rfl rfl ?_|refine zb rfl ?_|refine zj rfl rfl rfl rfl (fun _=>?_) (fun _=>?_))
  rfl
 have hcc:zaI b base args (n+1) m t=zba (zaI b base args n) m t.kind 0 t.kids:=by
  rw[zaI,if_neg k1,if_neg k3,if_neg]
  rintro ⟨k6,hg⟩
  refine hdec ?_
  have k6':=zo8 hfm k6
  obtain⟨f,a,hk⟩:=zb0 k6'
  have hpos:0 <(zF t).2.length:=by rw[zf3 k6' hk];simp
  unfold zbP at hg
  simp only[Bool.and_eq_true,decide_eq_true_eq]at hg
  exact⟨hg.1,hpos,hg.2.1,hg.2.2.1⟩
 rw[hcc]
 have hin: ∀ j:Nat,FC Tryz.prog 172 [aQ (plQ b base args m),.int .i64 (zU t.kind (j:Nat))] (aQ (plQ b base args (m+(zU t.kind (j:Nat)).toNat))):=fun j=>by
  have hbi:0≤zU t.kind (j:Nat)∧zU t.kind (j:Nat)≤1:=by unfold zU;split <;>omega
  have:=zgx b base args m (zU t.kind (j:Nat)).toNat hl (by omega)
  rwa[show(((zU t.kind (j:Nat)).toNat:Nat):Int)=zU t.kind (j:Nat) by omega]at this
 have hkc: ∀ (j:Nat) (k:Tm),k∈t.kids→FC Tryz.prog 131 [aQ (plQ b base args (m+(zU t.kind (j:Nat)).toNat)),aT k] (.bool (zaI b base args n (m+zU t.kind (j:Nat)) k)):=fun j k hk=>by
  have hbi:0≤zU t.kind (j:Nat)∧zU t.kind (j:Nat)≤1:=by unfold zU;split <;>omega
  have hks:=zK hk
  have hkd:=zaU hk
  have:=ih k (m+(zU t.kind (j:Nat)).toNat) (by omega) (zao hfm hk) (by omega)
  rwa[show((m+(zU t.kind (j:Nat)).toNat:Nat):Int)=m+zU t.kind (j:Nat) by omega]at this
 have hof:=zgU b base (zF t).1.num hb
 obtain⟨q1,q2,_⟩:=zfy (b:=b) (base:=base) (n:=(zF t).1.num)
 by_cases d3:(ofB b base (zF t).1.num).1=4
 ·obtain⟨s,hss,hsm⟩:=zA (q2 d3)
  have rs:=zaK hss
  have hix:idxN b (ofB b base (zF t).1.num).2=s.idx.length:=by unfold idxN;rw[hss]
  rw[hix]at hdec
  have hsb:=zat hsm
  have hsl:s.idx.length≤1048576:=by
   have h1:=zae s.idx
   have h2:s.size=zaH s.idx+s.decT.size:=rfl
   have h3:b.size=zbh b.sorts+zbg b.cons:=rfl
   omega
  have e1:(zF t).1.kind=3→((rsT (zF t).2).length:Int)>0→ ¬((rsT (zF t).2).length:Int)=IntKind.i64.wrap (((zX s.idx).length:Int)+1):=fun p1 p2 p3=>by
   rw[zeb,zN,zy (n:=(s.idx.length:Int)+1) (by omega) (by omega)]at p3
   rw[zeb]at p2
   exact hdec ⟨p1,by omega,d3,by omega⟩
  refine zo hty Tryz.func131 rfl rfl rfl fun w0=>?_
  repeat'(first|exact absurd (by assumption) k1|exact absurd (by assumption) k3|exact absurd d3 ‹_›|exact absurd (by assumption) (e1 (by assumption) (by assumption))|refine zv 0 rfl hun rfl rfl rfl ?_|refine zv 0 rfl hof rfl rfl rfl ?_|refine WL_m rfl (zaq hty rfl rfl rfl q1 rs rfl) ?_|refine WL_p hty rfl rfl ?_|refine zh ?_|refine zi ?_|refine za ?_|refine zf ?_|refine zxg ?_|refine zd rfl ?_|refine zbZ rfl ?_|refine zx rfl rfl ?_|refine zq rfl rfl rfl ?_|refine zj rfl rfl rfl rfl (fun _=>?_) (fun _=>?_))
  all_goals
   refine zW t.kids.length (fun j=>zba (zaI b base args n) m t.kind 0 (t.kids.take j)=true) (fun j=>⟨envOf [(2,.ptr 2 0),(3,.ptr 3 0),(11,.int .i64 (j:Nat))],bkOf [(2,.box (cQ (plQ b base args m))),(3,.box (cT t))]⟩)
    (zfY ⟨zz rfl rfl,zz rfl rfl,zz rfl rfl,trivial⟩ ⟨zw rfl rfl,zw rfl rfl,trivial⟩) rfl ?_
   intro j hj hI
   repeat'(first|refine WL_p hty rfl rfl ?_|refine zi ?_|refine za ?_)
   refine zj rfl rfl rfl rfl (fun hc=>?_) (fun hc=>?_)
   ·have hlt:j <t.kids.length:=by rw[zeb]at hc;omega
    obtain⟨k,hk,hmem⟩:=zA hlt
    have rk:=zac hk
    have hin:=hin j
    have hkc:=hkc j k hmem
    repeat'(first|refine zD (id:=15) zzE rfl (by kernel_rfl) ?_|refine zad 0 rfl (zgu _ _) rfl rfl rfl ?_|refine zad 0 rfl hin rfl rfl rfl ?_|refine zan rfl hkc rfl (fun _=>?_) (fun _=>?_)|refine zu (.inl ⟨rfl,zI hty rfl rfl⟩) ?_|refine zu (.inl ⟨rfl,zm hty rfl rfl rfl (by assumption) rfl⟩) ?_|refine zS ⟨by kernel_rfl,?_⟩|refine WL_p hty rfl rfl ?_|refine zh ?_|refine zi ?_|refine za ?_|refine zf ?_|refine zxg ?_|refine zd rfl ?_|refine zbZ rfl ?_|refine zg ?_|refine zb rfl ?_)
    all_goals rename_i hq
    ·refine⟨hlt,by rw[ze0 _ _ _ hk,hI,hq];rfl,(zfY ⟨zz rfl rfl,zz rfl rfl,⟨_,rfl,zO ?_ rfl⟩,trivial⟩ ⟨zw rfl rfl,zw rfl rfl,trivial⟩)⟩
     exact congrArg (AV.int .i64) ((zy (by omega) (by omega)).trans (by omega))
    ·rw[zen _ _ _ hk,hq];simp
   ·obtain rfl:j=t.kids.length:=by rw[zeb]at hc;omega
    rw[List.take_length]at hI
    repeat'(first|refine WL_p hty rfl rfl ?_|refine zh ?_|refine zi ?_|refine za ?_|refine zbZ rfl ?_|refine zl ?_|refine zg ?_|refine zb rfl ?_)
    exact hI.symm
 ·refine zo hty Tryz.func131 rfl rfl rfl fun w0=>?_
  repeat'(first|exact absurd (by assumption) k1|exact absurd (by assumption) k3|exact absurd (by assumption) d3|refine zv 0 rfl hun rfl rfl rfl ?_|refine zv 0 rfl hof rfl rfl rfl ?_|refine WL_p hty rfl rfl ?_|refine zh ?_|refine zi ?_|refine za ?_|refine zf ?_|refine zxg ?_|refine zd rfl ?_|refine zbZ rfl ?_|refine zx rfl rfl ?_|refine zq rfl rfl rfl ?_|refine zj rfl rfl rfl rfl (fun _=>?_) (fun _=>?_))
  all_goals
   refine zW t.kids.length (fun j=>zba (zaI b base args n) m t.kind 0 (t.kids.take j)=true) (fun j=>⟨envOf [(2,.ptr 2 0),(3,.ptr 3 0),(11,.int .i64 (j:Nat))],bkOf [(2,.box (cQ (plQ b base args m))),(3,.box (cT t))]⟩)
    (zfY ⟨zz rfl rfl,zz rfl rfl,zz rfl rfl,trivial⟩ ⟨zw rfl rfl,zw rfl rfl,trivial⟩) rfl ?_
   intro j hj hI
   repeat'(first|refine WL_p hty rfl rfl ?_|refine zi ?_|refine za ?_)
   refine zj rfl rfl rfl rfl (fun hc=>?_) (fun hc=>?_)
   ·have hlt:j <t.kids.length:=by rw[zeb]at hc;omega
    obtain⟨k,hk,hmem⟩:=zA hlt
    have rk:=zac hk
    have hin:=hin j
    have hkc:=hkc j k hmem
    repeat'(first|refine zD (id:=15) zzE rfl (by kernel_rfl) ?_|refine zad 0 rfl (zgu _ _) rfl rfl rfl ?_|refine zad 0 rfl hin rfl rfl rfl ?_|refine zan rfl hkc rfl (fun _=>?_) (fun _=>?_)|refine zu (.inl ⟨rfl,zI hty rfl rfl⟩) ?_|refine zu (.inl ⟨rfl,zm hty rfl rfl rfl (by assumption) rfl⟩) ?_|refine zS ⟨by kernel_rfl,?_⟩|refine WL_p hty rfl rfl ?_|refine zh ?_|refine zi ?_|refine za ?_|refine zf ?_|refine zxg ?_|refine zd rfl ?_|refine zbZ rfl ?_|refine zg ?_|refine zb rfl ?_)
    all_goals rename_i hq
    ·refine⟨hlt,by rw[ze0 _ _ _ hk,hI,hq];rfl,(zfY ⟨zz rfl rfl,zz rfl rfl,⟨_,rfl,zO ?_ rfl⟩,trivial⟩ ⟨zw rfl rfl,zw rfl rfl,trivial⟩)⟩
     exact congrArg (AV.int .i64) ((zy (by omega) (by omega)).trans (by omega))
    ·rw[zen _ _ _ hk,hq];simp
   ·obtain rfl:j=t.kids.length:=by rw[zeb]at hc;omega
    rw[List.take_length]at hI
    repeat'(first|refine WL_p hty rfl rfl ?_|refine zh ?_|refine zi ?_|refine za ?_|refine zbZ rfl ?_|refine zl ?_|refine zg ?_|refine zb rfl ?_)
    exact hI.symm
end Go.Proofs.YtokfbblhjpfjkaaGreat
namespace Go.Proofs.YtokfbblhjpfjkaaGreat
open Go.Aw Go.RowKit
def zBG:List (Nat×List Nat):=[(0,[]),(1,[]),(2,[]),(3,[1,2]),(4,[1,2,3]),(5,[0,1,2,3,4]),(6,[0,1,2,3,4,5])]
def zy8:List (Nat×List Nat):=[(0,[]),(1,[0]),(2,[0,1]),(3,[0,1,2]),(4,[0,1,2,3]),(5,[0,1,2,3]),(6,[0,1,2,3]),(7,[0,1,2,3,5,6]),(8,[0,1,2,3,5,6,7]),(9,[0,1,2,3,4,5,6,7,8]),(10,[0,1,2,3,4,5,6,7,8,9]),(11,[0,1,2,3,4,5,6,7,8,9,10]),(12,[0,1,2,3,4,5,6,7,8,9,10,11]),(13,[0,1,2,3,4,5,6,7,8,9,10,11,12]),(14,[0,1,2,3,4,5,6,7,8,9,10,11,12,13]),(15,[0,1,2,3,4,5,6,7,8,9,10,11,12,13,14]),(16,[0,1,2,3,4,5,6,7,8,9,10,11,12,13,14,15]),(17,[0,1,2,3,4,5,6,7,8,9,10,11,12,13,14,15,16]),(18,[0,1,2,3,4,5,6,7,8,9,10,11,12,13,14,15,16,17]),(19,[0,1,2,3,4,5,6,7,8,9,10,11,12,13,14,15,16,17,18]),(20,[0,1,2,3,4,5,6,7,8,9,10,11,12,13,14,15,16,17,18,19]),(21,[0,1,2,3,4,5,6,7,8,9,10,11,12,13,14,15,16,17,18,19,20]),(22,[0,1,2,3,4,5,6,7,8,9,10,11,12,13,14,15,16,17,18,19,20,21]),(23,[0,1,2,3,4,5,6,7,8,9,10,11,12,13,14,15,16,17,18,19,20,21]),(24,[0,1,2,3,4,5,6,7,8,9,10,11,12,13,14,15,16,17,18,19,20,21]),(25,[0,1,2,3,4,5,6,7,8,9,10,11,12,13,14,15,16,17,18,19,20,21,23,24]),(26,[0,1,2,3,4,5,6,7,8,9,10,11,12,13,14,15,16,17,18,19,20,21,23,24,25]),(27,[0,1,2,3,4,5,6,7,8,9,10,11,12,13,14,15,16,17,18,19,20,21]),(28,[0,1,2,3,4,5,6,7,8,9,10,11,12,13,14,15,16,17,18,19,20,21,22,23,24,25,26,27]),(29,[0,1,2,3,4,5,6,7,8,9,10,11,12,13,14,15,16,17,18,19,20,21,22,23,24,25,26,27,28]),(30,[0,1,2,3,4,5,6,7,8,9,10,11,12,13,14,15,16,17,18,19,20,21,22,23,24,25,26,27,28,29]),(31,[0,1,2,3,4,5,6,7,8,9,10,11,12,13,14,15,16,17,18,19,20,21,22,23,24,25,26,27,28,29,30]),(32,[0,1,2,3,4,5,6,7,8,9,10,11,12,13,14,15,16,17,18,19,20,21,22,23,24,25,26,27,28,29,30,31]),(33,[0,1,2,3,4,5,6,7,8,9,10,11,12,13,14,15,16,17,18,19,20,21,22,23,24,25,26,27,28,29,30,31,32]),(34,[0,1,2,3,4,5,6,7,8,9,10,11,12,13,14,15,16,17,18,19,20,21,22,23,24,25,26,27,28,29,30,31,32,33]),(35,[0,1,2,3,4,5,6,7,8,9,10,11,12,13,14,15,16,17,18,19,20,21,22,23,24,25,26,27,28,29,30,31,32,33,34]),(36,[0,1,2,3,4,5,6,7,8,9,10,11,12,13,14,15,16,17,18,19,20,21,22,23,24,25,26,27,28,29,30,31,32,33,34,35]),(37,[0,1,2,3,4,5,6,7,8,9,10,11,12,13,14,15,16,17,18,19,20,21,22,23,24,25,26,27,28,29,30,31,32,33,34,35,36]),(38,[0,1,2,3,4,5,6,7,8,9,10,11,12,13,14,15,16,17,18,19,20,21,22,23,24,25,26,27,28,29,30,31,32,33,34,35,36,37]),(39,[0,1,2,3,4,5,6,7,8,9,10,11,12,13,14,15,16,17,18,19,20,21,22,23,24,25,26,27,28,29,30,31,32,33,34,35,36,37,38]),(40,[0,1,2,3,4,5,6,7,8,9,10,11,12,13,14,15,16,17,18,19,20,21,22,23,24,25,26,27,28,29,30,31,32,33,34,35,36,37,38,39]),(41,[0,1,2,3,4,5,6,7,8,9,10,11,12,13,14,15,16,17,18,19,20,21,22,23,24,25,26,27,28,29,30,31,32,33,34,35,36,37,38,39,40]),(42,[0,1,2,3,4,5,6,7,8,9,10,11,12,13,14,15,16,17,18,19,20,21,22,23,24,25,26,27,28,29,30,31,32,33,34,35,36,37,38,39,40,41]),(43,[0,1,2,3,4,5,6,7,8,9,10,11,12,13,14,15,16,17,18,19,20,21,22,23,24,25,26,27,28,29,30,31,32,33,34,35,36,37,38,39,40,41]),(44,[0,1,2,3,4,5,6,7,8,9,10,11,12,13,14,15,16,17,18,19,20,21,22,23,24,25,26,27,28,29,30,31,32,33,34,35,36,37,38,39,40,41,42,43]),(45,[0,1,2,3,4,5,6,7,8,9,10,11,12,13,14,15,16,17,18,19,20,21,22,23,24,25,26,27,28,29,30,31,32,33,34,35,36,37,38,39,40,41,42,43,44]),(46,[0,1,2,3,4,5,6,7,8,9,10,11,12,13,14,15,16,17,18,19,20,21,22,23,24,25,26,27,28,29,30,31,32,33,34,35,36,37,38,39,40,41,42,43,44,45]),(47,[0,1,2,3,4,5,6,7,8,9,10,11,12,13,14,15,16,17,18,19,20,21,22,23,24,25,26,27,28,29,30,31,32,33,34,35,36,37,38,39,40,41,42,43,44,45,46]),(48,[0,1,2,3,4,5,6,7,8,9,10,11,12,13,14,15,16,17,18,19,20,21,22,23,24,25,26,27,28,29,30,31,32,33,34,35,36,37,38,39,40,41,42,43,44,45,46,47]),(49,[0,1,2,3,4,5,6,7,8,9,10,11,12,13,14,15,16,17,18,19,20,21,22,23,24,25,26,27,28,29,30,31,32,33,34,35,36,37,38,39,40,41,42,43,44,45,46,47,48]),(50,[0,1,2,3,4,5,6,7,8,9,10,11,12,13,14,15,16,17,18,19,20,21,22,23,24,25,26,27,28,29,30,31,32,33,34,35,36,37,38,39,40,41,42,43,44,45,46,47,48]),(51,[0,1,2,3,4,5,6,7,8,9,10,11,12,13,14,15,16,17,18,19,20,21,22,23,24,25,26,27,28,29,30,31,32,33,34,35,36,37,38,39,40,41,42,43,44,45,46,47,48]),(52,[0,1,2,3,4,5,6,7,8,9,10,11,12,13,14,15,16,17,18,19,20,21,22,23,24,25,26,27,28,29,30,31,32,33,34,35,36,37,38,39,40,41,42,43,44,45,46,47,48,50,51]),(53,[0,1,2,3,4,5,6,7,8,9,10,11,12,13,14,15,16,17,18,19,20,21,22,23,24,25,26,27,28,29,30,31,32,33,34,35,36,37,38,39,40,41,42,43,44,45,46,47,48,50,51,52]),(54,[0,1,2,3,4,5,6,7,8,9,10,11,12,13,14,15,16,17,18,19,20,21,22,23,24,25,26,27,28,29,30,31,32,33,34,35,36,37,38,39,40,41,42,43,44,45,46,47,48,50,51,52,53]),(55,[0,1,2,3,4,5,6,7,8,9,10,11,12,13,14,15,16,17,18,19,20,21,22,23,24,25,26,27,28,29,30,31,32,33,34,35,36,37,38,39,40,41,42,43,44,45,46,47,48,49,50,51,52,53,54]),(56,[0,1,2,3,4,5,6,7,8,9,10,11,12,13,14,15,16,17,18,19,20,21,22,23,24,25,26,27,28,29,30,31,32,33,34,35,36,37,38,39,40,41,42,43,44,45,46,47,48,49,50,51,52,53,54,55]),(57,[0,1,2,3,4,5,6,7,8,9,10,11,12,13,14,15,16,17,18,19,20,21,22,23,24,25,26,27,28,29,30,31,32,33,34,35,36,37,38,39,40,41,42,43,44,45,46,47,48,49,50,51,52,53,54,55,56]),(58,[0,1,2,3,4,5,6,7,8,9,10,11,12,13,14,15,16,17,18,19,20,21,22,23,24,25,26,27,28,29,30,31,32,33,34,35,36,37,38,39,40,41,42,43,44,45,46,47,48,49,50,51,52,53,54,55,56,57]),(59,[0,1,2,3,4,5,6,7,8,9,10,11,12,13,14,15,16,17,18,19,20,21,22,23,24,25,26,27,28,29,30,31,32,33,34,35,36,37,38,39,40,41,42,43,44,45,46,47,48,49,50,51,52,53,54,55,56,57,58]),(60,[0,1,2,3,4,5,6,7,8,9,10,11,12,13,14,15,16,17,18,19,20,21,22,23,24,25,26,27,28,29,30,31,32,33,34,35,36,37,38,39,40,41,42,43,44,45,46,47,48,49,50,51,52,53,54,55,56,57,58,59])]
attribute [local irreducible] WL AC WD WE MStep OkOp
theorem zb8(b:Bl)(base:Int)(args:List Ar)(m:Nat)(t:Tm)(hb:b.size≤1048576)(hl:args.length≤1048576)(hs:t.size≤1048576)(hfm:formedT t=true)(hm:m+t.depth≤2097152):
 FC Tryz.prog 131 [aQ (plQ b base args m),aT t] (.bool (zay b base args m t)):=zpa b base args hb hl 1048576 (Nat.le_refl _) t m hs hfm hm
attribute [local irreducible] zay
set_option maxRecDepth 4000 in
set_option maxHeartbeats 16000000 in
theorem zr6(b:Bl)(base:Int)(args:List Ar)(m:Nat)(c:Int)(hb:b.size≤1048576)(hl:args.length≤1048576): ∀ n,n≤1048576→ ∀ (t:Tm),t.size≤n→formedT t=true→m+t.depth≤2097152→
 FC Tryz.prog 177 [aQ (plQ b base args m),aT t,.int .i64 c] (.bool (zdv b base args m c n t)):=by
 intro n
 induction n with
 |zero=>intro hn t ht;have:=t.size_pos;omega
 |succ n ih=>
 intro hn t ht hfm hm
 have ih:=ih (by omega)
 have hun:=zeh t (by omega)
 have hsz:=zbb t
 obtain⟨hi1,hi2⟩:=zdG (Sub t.depth) Sub.kid (t:=t) ⟨hfm,Nat.le_refl _⟩
 have hhp:=(zF t).1.size_pos
 obtain⟨f,hf⟩: ∃ f,f=(zF t).1:=⟨_,rfl⟩
 obtain⟨l,hll⟩: ∃ l,l=(zF t).2:=⟨_,rfl⟩
 have hd:zdv b base args m c (n+1) t=if(zal args m f).2=true then decide (l.length=zqb args (zal args m f).1)&&l.all (zay b base args m)
  else decide (f.kind=3)&&(decide ((ofB b base f.num).1=5)&&(decide ((ofB b base f.num).2 <c)&&(decide (l.length=(zdc b (ofB b base f.num).2).length)&&
   zkI (zhf (zay b base args m) (zdv b base args m c n) (fun x=>(zal args m x).2)) (zdc b (ofB b base f.num).2) l))):=by rw[hf,hll];rfl
 rw[hd]
 rw[←hf, ←hll]at hun
 rw[←hf, ←hll]at hsz
 rw[←hf]at hi1 hhp
 rw[←hll]at hi2
 clear hd hf hll
 have hnum:=zCw hi1.1
 have hll:=zM l
 have hvl:=zbV args m
 by_cases k1:f.kind=1
 ·have hg:FC Tryz.prog 173 [aQ (plQ b base args m),.int .i64 f.num] (.int .i64 (zbX (zaY args m) f.num)):=zdb (plQ b base args m) f.num (by show(zaY args m).length≤_;omega) hnum
  rw[zlj k1 hnum.1]at hg
  have hgt:=zfC (args:=args) (m:=(m:Int)) (t:=f)
  obtain⟨⟨gi,gb⟩,hG⟩: ∃ G,G=zal args m f:=⟨_,rfl⟩
  rw[←hG]at hg hgt⊢
  simp only at hg hgt⊢
  cases gb
  ·rw[if_neg (by decide),show decide (f.kind=3)=false from decide_eq_false (by omega),Bool.false_and]
   rw[if_neg (by decide)]at hg
   refine zo hty Tryz.func177 rfl rfl rfl fun w0=>?_
   repeat'(first|exact absurd k1 ‹_›|exact absurd (show(-1:Int) <0 by decide) ‹_›|refine zv 0 rfl hun rfl rfl rfl ?_|refine zv 0 rfl hg rfl rfl rfl ?_|refine WL_p hty rfl rfl ?_|refine zh ?_|refine zi ?_|refine za ?_|refine zd rfl ?_|refine zg ?_|refine zot rfl rfl rfl ?_|refine zb rfl ?_|refine zj rfl rfl rfl rfl (fun _=>?_) (fun _=>?_))
   all_goals rfl
  ·rw[if_pos rfl]
   rw[if_pos rfl]at hg
   obtain⟨g0,a,ha⟩:=hgt rfl
   have ra:=za6 ha
   have hdn:zqb args gi=a.dom.length:=by unfold zqb;rw[ha]
   rw[hdn,zbD]
   have ng: ¬gi <0:=by omega
   refine zo hty Tryz.func177 rfl rfl rfl fun w0=>?_
   repeat'(first|exact absurd k1 ‹_›|exact absurd (by assumption) ng|refine zv 0 rfl hun rfl rfl rfl ?_|refine zv 0 rfl hg rfl rfl rfl ?_|refine WL_m rfl (zaq hty rfl rfl rfl g0 ra rfl) ?_|refine WL_p hty rfl rfl ?_|refine zh ?_|refine zi ?_|refine za ?_|refine zf ?_|refine zxg ?_|refine zd rfl ?_|refine zbZ rfl ?_|refine zg ?_|refine zx rfl rfl ?_|refine zb rfl ?_|refine zj rfl rfl rfl rfl (fun _=>?_) (fun _=>?_))
   ·rename_i hq
    have hq:((rsT l).length:Int)≠((rsT a.dom).length:Int):=hq
    rw[zeb,zeb]at hq
    rw[show decide (l.length=a.dom.length)=false from decide_eq_false (by omega)];rfl
   ·rename_i hq
    have hq: ¬((rsT l).length:Int)≠((rsT a.dom).length:Int):=hq
    rw[zeb,zeb]at hq
    rw[show decide (l.length=a.dom.length)=true from decide_eq_true (by omega),Bool.true_and]
    refine zW l.length (fun j=>(l.take j).any (fun t=> !zay b base args m t)=false) (fun j=>⟨envOf [(3,.ptr 3 0),(8,sT l),(10,.int .i64 (j:Nat))],bkOf [(3,.box (cQ (plQ b base args m)))]⟩) (zfY ⟨zz rfl rfl,zz rfl rfl,zz rfl rfl,trivial⟩ ⟨zw rfl rfl,trivial⟩) rfl ?_
    intro j hj hI
    repeat'(first|refine WL_p hty rfl rfl ?_|refine zi ?_|refine za ?_)
    refine zj rfl rfl rfl rfl (fun hc=>?_) (fun hc=>?_)
    ·have hlt:j <l.length:=by rw[zeb]at hc;omega
     obtain⟨k,hk,hmem⟩:=zA hlt
     have rk:=zac hk
     have hks:=zK hmem
     have hkd:=(hi2 k hmem).2
     have hck:=zb8 b base args m k hb hl (by omega) (hi2 k hmem).1 (by omega)
     have hat:=zaA (p:=fun t=> !zay b base args m t) hk
     repeat'(first|refine zD (id:=9) zBG rfl (by kernel_rfl) ?_|refine zan rfl hck rfl (fun _=>?_) (fun _=>?_)|refine zu (.inl ⟨rfl,zI hty rfl rfl⟩) ?_|refine zu (.inl ⟨rfl,zm hty rfl rfl rfl (by assumption) rfl⟩) ?_|refine zS ⟨by kernel_rfl,?_⟩|refine WL_p hty rfl rfl ?_|refine zh ?_|refine zi ?_|refine za ?_|refine zf ?_|refine zxg ?_|refine zd rfl ?_|refine zbZ rfl ?_|refine zg ?_|refine zb rfl ?_)
     ·rename_i hg
      refine⟨hlt,by rw[hat,hI,hg];rfl,(zfY ⟨zz rfl rfl,zz rfl rfl,⟨_,rfl,zO ?_ rfl⟩,trivial⟩ ⟨zw rfl rfl,trivial⟩)⟩
      exact congrArg (AV.int .i64) ((zy (by omega) (by omega)).trans (by omega))
     ·rename_i hg
      rw[zbI (p:=fun t=> !zay b base args m t) hk (by simp[hg])];rfl
    ·obtain rfl:j=l.length:=by rw[zeb]at hc;omega
     rw[List.take_length]at hI
     rw[hI]
     repeat'(first|refine WL_p hty rfl rfl ?_|refine zh ?_|refine zi ?_|refine za ?_|refine zbZ rfl ?_|refine zl ?_|refine zg ?_|refine zb rfl ?_)
     rfl
 rw[if_neg (by rw[zfo k1];decide)]
 by_cases k3:f.kind=3
 case neg=>
  refine zo hty Tryz.func177 rfl rfl rfl fun w0=>?_
  repeat'(first|exact absurd (by assumption) k1|exact absurd (show f.kind≠3 from k3) ‹_›|refine zv 0 rfl hun rfl rfl rfl ?_|refine WL_p hty rfl rfl ?_|refine zh ?_|refine zi ?_|refine za ?_|refine zxg ?_|refine zd rfl ?_|refine zbZ rfl ?_|refine zg ?_|refine zb rfl ?_|refine zj rfl rfl rfl rfl (fun _=>?_) (fun _=>?_))
  rw[decide_eq_false k3];rfl
 have hof:=zgU b base f.num hb
 obtain⟨q1,_,q2⟩:=zfy (b:=b) (base:=base) (n:=f.num)
 obtain⟨⟨kd,wh⟩,hK⟩: ∃ K,K=ofB b base f.num:=⟨_,rfl⟩
 rw[←hK]at hof q1 q2⊢
 simp only at hof q1 q2⊢
 rw[decide_eq_true k3,Bool.true_and]
 by_cases k4:kd=5
 case neg=>
  refine zo hty Tryz.func177 rfl rfl rfl fun w0=>?_
  repeat'(first|exact absurd (by assumption) k1|exact absurd k3 ‹_›|exact absurd (show kd≠5 from k4) ‹_›|refine zv 0 rfl hun rfl rfl rfl ?_|refine zv 0 rfl hof rfl rfl rfl ?_|refine WL_p hty rfl rfl ?_|refine zh ?_|refine zi ?_|refine za ?_|refine zxg ?_|refine zd rfl ?_|refine zbZ rfl ?_|refine zg ?_|refine zot rfl rfl rfl ?_|refine zb rfl ?_|refine zj rfl rfl rfl rfl (fun _=>?_) (fun _=>?_))
  rw[decide_eq_false k4];rfl
 rw[decide_eq_true k4,Bool.true_and]
 by_cases k5:c≤wh
 case pos=>
  have k5':wh≥c:=k5
  refine zo hty Tryz.func177 rfl rfl rfl fun w0=>?_
  repeat'(first|exact absurd (by assumption) k1|exact absurd k3 ‹_›|exact absurd k4 ‹_›|exact absurd k5' ‹_›|refine zv 0 rfl hun rfl rfl rfl ?_|refine zv 0 rfl hof rfl rfl rfl ?_|refine WL_p hty rfl rfl ?_|refine zh ?_|refine zi ?_|refine za ?_|refine zxg ?_|refine zd rfl ?_|refine zbZ rfl ?_|refine zg ?_|refine zx rfl rfl ?_|refine zot rfl rfl rfl ?_|refine zb rfl ?_|refine zj rfl rfl rfl rfl (fun _=>?_) (fun _=>?_))
  rw[decide_eq_false (by omega)];rfl
 rw[show decide (wh <c)=true from decide_eq_true (by omega),Bool.true_and]
 have k5': ¬wh≥c:=k5
 obtain⟨co,hco,hcm⟩:=zA (q2 k4)
 have rco:=zby hco
 have hca:zdc b wh=co.args:=by unfold zdc;rw[hco]
 have hcs:=zaB hcm
 have hcl:co.args.length≤1048576:=by
  have h1:=zae co.args
  have h2:co.size=zaH co.args+sizes co.idx+co.dec.size:=rfl
  have h3:b.size=zbh b.sorts+zbg b.cons:=rfl
  omega
 rw[hca]
 by_cases k6:l.length=co.args.length
 case neg=>
  refine zo hty Tryz.func177 rfl rfl rfl fun w0=>?_
  repeat'(first|exact absurd (by assumption) k1|exact absurd k3 ‹_›|exact absurd k4 ‹_›|exact absurd (by assumption) k5'|(refine absurd ?_ k6;have hq:=Decidable.not_not.1 (show ¬((rsT l).length:Int)≠((zX co.args).length:Int) by assumption);rw[zN,zeb]at hq;omega)|refine zv 0 rfl hun rfl rfl rfl ?_|refine zv 0 rfl hof rfl rfl rfl ?_|refine WL_m rfl (zaq hty rfl rfl rfl q1 rco rfl) ?_|refine WL_p hty rfl rfl ?_|refine zh ?_|refine zi ?_|refine za ?_|refine zxg ?_|refine zd rfl ?_|refine zbZ rfl ?_|refine zg ?_|refine zx rfl rfl ?_|refine zb rfl ?_|refine zj rfl rfl rfl rfl (fun _=>?_) (fun _=>?_))
  rw[decide_eq_false k6];rfl
 rw[decide_eq_true k6,Bool.true_and]
 have n6: ¬((rsT l).length:Int)≠((zX co.args).length:Int):=by rw[zN,zeb];omega
 refine zo hty Tryz.func177 rfl rfl rfl fun w0=>?_
 repeat'(first|exact absurd (by assumption) k1|exact absurd k3 ‹_›|exact absurd k4 ‹_›|exact absurd (by assumption) k5'|exact absurd (by assumption) n6|refine zv 0 rfl hun rfl rfl rfl ?_|refine zv 0 rfl hof rfl rfl rfl ?_|refine WL_m rfl (zaq hty rfl rfl rfl q1 rco rfl) ?_|refine WL_p hty rfl rfl ?_|refine zh ?_|refine zi ?_|refine za ?_|refine zf ?_|refine zxg ?_|refine zbZ rfl ?_|refine zx rfl rfl ?_|refine zj rfl rfl rfl rfl (fun _=>?_) (fun _=>?_))
 refine zW co.args.length (fun j=> ∀ (i:Nat) (a:Ar) (x:Tm),i <j→co.args[i]? =some a→l[i]? =some x→zhf (zay b base args m) (zdv b base args m c n) (fun x=>(zal args m x).2) a x=true)
  (fun j=>⟨envOf [(2,.int .i64 c),(3,.ptr 3 0),(8,sT l),(12,.int .i64 wh),(13,.int .i64 (j:Nat))],bkOf [(3,.box (cQ (plQ b base args m)))]⟩)
  (zfY ⟨zz rfl rfl,zz rfl rfl,zz rfl rfl,zz rfl rfl,zz rfl rfl,trivial⟩ ⟨zw rfl rfl,trivial⟩) (fun i a x hi=>absurd hi (Nat.not_lt_zero _)) ?_
 intro j hj hI
 repeat'(first|refine WL_p hty rfl rfl ?_|refine zi ?_|refine za ?_)
 refine zj rfl rfl rfl rfl (fun hc=>?_) (fun hc=>?_)
 ·have hlt:j <co.args.length:=by rw[zeb]at hc;omega
  obtain⟨a,ha,_⟩:=zA hlt
  obtain⟨x,hx,hxm⟩:=zA (k6▸hlt)
  have ra:=za6 ha
  have rx:=zac hx
  have hxs:=zK hxm
  have hxi:=hi2 x hxm
  have hxd:=hxi.2
  have hxn:=zCw hxi.1
  have hg2:FC Tryz.prog 173 [aQ (plQ b base args m),.int .i64 x.num] (.int .i64 (zbX (zaY args m) x.num)):=zdb (plQ b base args m) x.num (by show(zaY args m).length≤_;omega) hxn
  have hgn:x.kind=1→(zbX (zaY args m) x.num <0↔(zal args m x).2=false):=fun q=>zgr q hxn.1
  have hgk:x.kind≠1→(zal args m x).2=false:=zfo
  have hcl2:=zb8 b base args m x hb hl (by omega) hxi.1 (by omega)
  have hgd2:=ih x (by omega) hxi.1 (by omega)
  have hgg:zhf (zay b base args m) (zdv b base args m c n) (fun x=>(zal args m x).2) a x=if a.rc=true then(if a.dom.length=0 then zdv b base args m c n x else(zal args m x).2)else zay b base args m x:=rfl
  generalize zbX (zaY args m) x.num=gq at hg2 hgn
  generalize hgb:(zal args m x).2=gb at hgn hgk hgg
  have hfin:(AV.int .i64 (IntKind.i64.wrap ((j:Nat)+1)))=.int .i64 ((j+1:Nat):Int):=congrArg (AV.int .i64) ((zy (by omega) (by omega)).trans (by omega))
  obtain⟨rc,tt,dd,so,ix⟩:=a
  cases rc
  ·rw[if_neg (show ¬false=true by decide)]at hgg
   repeat'(first|(refine zbF (id:=21) ?_;refine zab (zfY (l:=[(2,_),(3,_),(8,_),(12,_),(13,_),(14,_)]) (bl:=[(3,_),(14,_)]) ⟨zz rfl rfl,zz rfl rfl,zz rfl rfl,zz rfl rfl,zz rfl rfl,zz rfl rfl,trivial⟩ ⟨zw rfl rfl,zw rfl rfl,trivial⟩) ?_;refine zD (id:=21) zy8 rfl (by kernel_rfl) ?_)|refine WL_m rfl (zaq hty rfl rfl rfl q1 rco rfl) ?_|refine zbc rfl (zm (i:=j) hty rfl rfl rfl rx rfl) ?_|refine zan rfl hcl2 rfl (fun _=>?_) (fun _=>?_)|refine zu (.inl ⟨rfl,zI hty rfl rfl⟩) ?_|refine zaG rfl rfl ?_|refine zau rfl rfl rfl ?_|refine zav rfl rfl rfl ?_|refine zaw rfl rfl rfl ?_|refine zS ⟨by kernel_rfl,?_⟩|refine WL_p hty rfl rfl ?_|refine zh ?_|refine zi ?_|refine za ?_|refine zf ?_|refine zxg ?_|refine zd rfl ?_|refine zbZ rfl ?_|refine zg ?_|refine WL_m rfl (zm hty rfl rfl rfl (by assumption) rfl) ?_|refine zb rfl ?_)
   all_goals first
    |exact(zbR ha hx (hgg.trans ‹_›)).symm
    |(refine⟨hlt,zbB hI ha hx (hgg.trans ‹_›),(zfY ⟨zz rfl rfl,zz rfl rfl,zz rfl rfl,zz rfl rfl,⟨_,rfl,zO ?_ rfl⟩,trivial⟩ ⟨zw rfl rfl,trivial⟩)⟩;exact hfin)
  ·rw[if_pos rfl]at hgg
   by_cases h0:dd.length=0
   ·rw[if_pos h0]at hgg
    have m1:((rsT dd).length:Int)=0:=by rw[zeb];omega
    have m2: ¬((rsT dd).length:Int)>0:=by rw[zeb];omega
    repeat'(first|exact absurd m1 ‹_›|exact absurd (by assumption) m2|(refine zbF (id:=21) ?_;refine zab (zfY (l:=[(2,_),(3,_),(8,_),(12,_),(13,_),(14,_)]) (bl:=[(3,_),(14,_)]) ⟨zz rfl rfl,zz rfl rfl,zz rfl rfl,zz rfl rfl,zz rfl rfl,zz rfl rfl,trivial⟩ ⟨zw rfl rfl,zw rfl rfl,trivial⟩) ?_;refine zD (id:=21) zy8 rfl (by kernel_rfl) ?_)|refine WL_m rfl (zaq hty rfl rfl rfl q1 rco rfl) ?_|refine zbc rfl (zm (i:=j) hty rfl rfl rfl rx rfl) ?_|refine zan rfl hgd2 rfl (fun _=>?_) (fun _=>?_)|refine zu (.inl ⟨rfl,zI hty rfl rfl⟩) ?_|refine zaG rfl rfl ?_|refine zau rfl rfl rfl ?_|refine zav rfl rfl rfl ?_|refine zaw rfl rfl rfl ?_|refine zS ⟨by kernel_rfl,?_⟩|refine WL_p hty rfl rfl ?_|refine zh ?_|refine zi ?_|refine za ?_|refine zf ?_|refine zxg ?_|refine zd rfl ?_|refine zbZ rfl ?_|refine zg ?_|refine WL_m rfl (zm hty rfl rfl rfl (by assumption) rfl) ?_|refine zb rfl ?_|refine zaC rfl rfl rfl rfl (fun _=>?_) (fun _=>?_))
    all_goals first
     |exact(zbR ha hx (hgg.trans ‹_›)).symm
     |(refine⟨hlt,zbB hI ha hx (hgg.trans ‹_›),(zfY ⟨zz rfl rfl,zz rfl rfl,zz rfl rfl,zz rfl rfl,⟨_,rfl,zO ?_ rfl⟩,trivial⟩ ⟨zw rfl rfl,trivial⟩)⟩;exact hfin)
   ·rw[if_neg h0]at hgg
    have m1: ¬((rsT dd).length:Int)=0:=by rw[zeb];omega
    have m2:((rsT dd).length:Int)>0:=by rw[zeb];omega
    repeat'(first|exact absurd (by assumption) m1|exact absurd m2 ‹_›|(refine zbF (id:=21) ?_;refine zab (zfY (l:=[(2,_),(3,_),(8,_),(12,_),(13,_),(14,_)]) (bl:=[(3,_),(14,_)]) ⟨zz rfl rfl,zz rfl rfl,zz rfl rfl,zz rfl rfl,zz rfl rfl,zz rfl rfl,trivial⟩ ⟨zw rfl rfl,zw rfl rfl,trivial⟩) ?_;refine zD (id:=21) zy8 rfl (by kernel_rfl) ?_)|refine WL_m rfl (zaq hty rfl rfl rfl q1 rco rfl) ?_|refine zbc rfl (zm (i:=j) hty rfl rfl rfl rx rfl) ?_|refine zad 0 rfl hg2 rfl rfl rfl ?_|refine zu (.inl ⟨rfl,zI hty rfl rfl⟩) ?_|refine zaG rfl rfl ?_|refine zau rfl rfl rfl ?_|refine zS ⟨by kernel_rfl,?_⟩|refine WL_p hty rfl rfl ?_|refine zh ?_|refine zi ?_|refine za ?_|refine zf ?_|refine zxg ?_|refine zd rfl ?_|refine zbZ rfl ?_|refine zg ?_|refine WL_m rfl (zm hty rfl rfl rfl (by assumption) rfl) ?_|refine zb rfl ?_|refine zaC rfl rfl rfl rfl (fun _=>?_) (fun _=>?_))
    ·have hgt:gb=true:=by
      cases gb
      ·exact absurd ((hgn (by assumption)).2 rfl) (by omega)
      ·rfl
     refine⟨hlt,zbB hI ha hx (hgg.trans hgt),(zfY ⟨zz rfl rfl,zz rfl rfl,zz rfl rfl,zz rfl rfl,⟨_,rfl,zO ?_ rfl⟩,trivial⟩ ⟨zw rfl rfl,trivial⟩)⟩;exact hfin
    ·have hgt:gb=false:=(hgn (by assumption)).1 (by omega)
     exact(zbR ha hx (hgg.trans hgt)).symm
    ·have hgt:gb=false:=hgk (by assumption)
     exact(zbR ha hx (hgg.trans hgt)).symm
 ·obtain rfl:j=co.args.length:=by rw[zeb]at hc;omega
  repeat'(first|refine WL_p hty rfl rfl ?_|refine zh ?_|refine zi ?_|refine za ?_|refine zbZ rfl ?_|refine zl ?_|refine zg ?_|refine zb rfl ?_)
  exact(zfw fun i a x h1 h2=>hI i a x (List.getElem?_eq_some_iff.1 h1).1 h1 h2).symm
end Go.Proofs.YtokfbblhjpfjkaaGreat
namespace Go.Proofs.YtokfbblhjpfjkaaGreat
open Go.Aw Go.RowKit
def zAj:List (Nat×List Nat):=[(0,[]),(1,[0]),(2,[0,1]),(3,[]),(4,[0,1,2,3]),(5,[0,1,2,3,4]),(6,[0,1,2,3,4,5]),(7,[]),(8,[0,1,2,3,4,5,6,7]),(9,[0,1,2,3,4,5,6,7,8]),(10,[0,1,2,3,4,5,6,7,8,9]),(11,[0,1,2,3,4,5,6,7,8,9,10]),(12,[0,1,2,3,4,5,6,7,8,9,10,11]),(13,[0,1,2,3,4,5,6,7,8,9,10,11]),(14,[0,1,2,3,4,5,6,7,8,9,10,11]),(15,[0,1,2,3,4,5,6,7,8,9,10,11,13,14]),(16,[0,1,2,3,4,5,6,7,8,9,10,11,13,14,15]),(17,[0,1,2,3,4,5,6,7,8,9,10,11]),(18,[0,1,2,3,4,5,6,7,8,9,10,11,12,13,14,15,16,17]),(19,[0,1,2,3,4,5,6,7,8,9,10,11,12,13,14,15,16,17,18]),(20,[0,1,2,3,4,5,6,7,8,9,10,11,12,13,14,15,16,17,18,19]),(21,[0,1,2,3,4,5,6,7,8,9,10,11,12,13,14,15,16,17,18,19,20]),(22,[0,1,2,3,4,5,6,7,8,9,10,11,12,13,14,15,16,17,18,19,20,21]),(23,[0,1,2,3,4,5,6,7,8,9,10,11,12,13,14,15,16,17,18,19,20,21,22]),(24,[0,1,2,3,4,5,6,7,8,9,10,11,12,13,14,15,16,17,18,19,20,21,22,23]),(25,[0,1,2,3,4,5,6,7,8,9,10,11,12,13,14,15,16,17,18,19,20,21]),(26,[0,1,2,3,4,5,6,7,8,9,10,11,12,13,14,15,16,17,18,19,20,21,22,23,24,25]),(27,[0,1,2,3,4,5,6,7,8,9,10,11,12,13,14,15,16,17,18,19,20,21,22,23,24,25,26]),(28,[0,1,2,3,4,5,6,7,8,9,10,11,12,13,14,15,16,17,18,19,20,21,22,23,24,25,26,27]),(29,[0,1,2,3,4,5,6,7,8,9,10,11,12,13,14,15,16,17,18,19,20,21]),(30,[0,1,2,3,4,5,6,7,8,9,10,11,12,13,14,15,16,17,18,19,20,21,22,23,24,25,26,27,28,29]),(31,[0,1,2,3,4,5,6,7,8,9,10,11,12,13,14,15,16,17,18,19,20,21,22,23,24,25,26,27,28,29,30]),(32,[0,1,2,3,4,5,6,7,8,9,10,11,12,13,14,15,16,17,18,19,20,21,22,23,24,25,26,27,28,29,30,31]),(33,[0,1,2,3,4,5,6,7,8,9,10,11,12,13,14,15,16,17,18,19,20,21,22,23,24,25,26,27,28,29,30,31,32]),(34,[0,1,2,3,4,5,6,7,8,9,10,11,12,13,14,15,16,17,18,19,20,21,22,23,24,25,26,27,28,29,30,31,32,33]),(35,[0,1,2,3,4,5,6,7,8,9,10,11,12,13,14,15,16,17,18,19,20,21,22,23,24,25,26,27,28,29,30,31,32,33,34]),(36,[0,1,2,3,4,5,6,7,8,9,10,11,12,13,14,15,16,17,18,19,20,21,22,23,24,25,26,27,28,29,30,31,32,33,34]),(37,[0,1,2,3,4,5,6,7,8,9,10,11,12,13,14,15,16,17,18,19,20,21,22,23,24,25,26,27,28,29,30,31,32,33,34]),(38,[0,1,2,3,4,5,6,7,8,9,10,11,12,13,14,15,16,17,18,19,20,21,22,23,24,25,26,27,28,29,30,31,32,33,34,36,37]),(39,[0,1,2,3,4,5,6,7,8,9,10,11,12,13,14,15,16,17,18,19,20,21,22,23,24,25,26,27,28,29,30,31,32,33,34,36,37,38]),(40,[0,1,2,3,4,5,6,7,8,9,10,11,12,13,14,15,16,17,18,19,20,21,22,23,24,25,26,27,28,29,30,31,32,33,34,35,36,37,38,39]),(41,[0,1,2,3,4,5,6,7,8,9,10,11,12,13,14,15,16,17,18,19,20,21,22,23,24,25,26,27,28,29,30,31,32,33,34,35,36,37,38,39,40]),(42,[0,1,2,3,4,5,6,7,8,9,10,11,12,13,14,15,16,17,18,19,20,21,22,23,24,25,26,27,28,29,30,31,32,33,34,35,36,37,38,39,40,41]),(43,[0,1,2,3,4,5,6,7,8,9,10,11,12,13,14,15,16,17,18,19,20,21,22,23,24,25,26,27,28,29,30,31,32,33,34,35,36,37,38,39,40,41,42])]
def zAl:List (Nat×List Nat):=[(0,[]),(1,[]),(2,[]),(3,[]),(4,[2,3]),(5,[0,1,2,3,4]),(6,[]),(7,[0,1,2,3,4,5,6])]
def zBL:List (Nat×List Nat):=[(0,[]),(1,[]),(2,[]),(3,[1,2]),(4,[1,2,3]),(5,[1,2,3,4]),(6,[0,1,2,3,4,5]),(7,[0,1,2,3,4,5,6])]
def zBe:List (Nat×List Nat):=[(0,[]),(1,[]),(2,[0,1]),(3,[]),(4,[]),(5,[3,4]),(6,[3,4,5]),(7,[3,4,5,6]),(8,[]),(9,[3,4,5,6,7,8]),(10,[3,4,5,6,7,8,9]),(11,[0,1,2,3,4,5,6,7,8,9,10]),(12,[0,1,2,3,4,5,6,7,8,9,10,11])]
def zBq:List (Nat×List Nat):=[(0,[]),(1,[]),(2,[]),(3,[1,2]),(4,[1,2,3]),(5,[1,2,3,4]),(6,[1,2,3,4,5]),(7,[0,1,2,3,4,5,6]),(8,[]),(9,[]),(10,[8,9]),(11,[8,9,10]),(12,[8,9,10,11]),(13,[]),(14,[]),(15,[13,14]),(16,[13,14,15]),(17,[13,14,15,16]),(18,[]),(19,[0,1,2,3,4,5,6,7,8,9,10,11,12,13,14,15,16,17,18]),(20,[0,1,2,3,4,5,6,7,8,9,10,11,12,13,14,15,16,17,18,19])]
attribute [local irreducible] WL AC WD WE MStep OkOp
theorem zp3(b:Bl)(base:Int)(args:List Ar)(m:Nat)(c:Int)(t:Tm)(hb:b.size≤1048576)(hl:args.length≤1048576)(hs:t.size≤1048576)(hfm:formedT t=true)(hm:m+t.depth≤2097152):
 FC Tryz.prog 177 [aQ (plQ b base args m),aT t,.int .i64 c] (.bool (zfg b base args m c t)):=zr6 b base args m c hb hl 1048576 (Nat.le_refl _) t hs hfm hm
attribute [local irreducible] zay zfg
set_option maxRecDepth 4000 in
set_option maxHeartbeats 8000000 in
theorem zge(b:Bl)(base:Int)(args:List Ar)(m:Nat)(c sort:Int)(l:List Tm)(hb:b.size≤1048576)(hl:args.length≤1048576)(hm:m≤1048576)(hso:0≤sort∧sort.toNat <b.sorts.length)(hlen:l.length=idxN b sort)
 (ho: ∀ x,x∈l→x.size≤6000∧x.depth≤200∧formedT x=true):FC Tryz.prog 132 [aQ (plQ b base args m),.int .i64 sort,sT l,.int .i64 c] (.bool (zi3 b base args m c sort l)):=by
 obtain⟨s,hs,hsm⟩:=zA hso.2
 have rs:=zaK hs
 have hio:ziY b sort=s.idx:=by unfold ziY;rw[hs]
 have hin:idxN b sort=s.idx.length:=by unfold idxN;rw[hs]
 rw[hin]at hlen
 have hso1:=hso.1
 have hsl:s.idx.length≤1048576:=by
  have h0:=zat hsm
  have h1:=zae s.idx
  have h2:s.size=zaH s.idx+s.decT.size:=rfl
  have h3:b.size=zbh b.sorts+zbg b.cons:=rfl
  omega
 unfold zi3
 rw[hio]
 refine zo hty Tryz.func132 rfl rfl rfl fun w0=>?_
 repeat'(first|refine WL_p hty rfl rfl ?_|refine zh ?_|refine zi ?_|refine za ?_|refine zf ?_)
 refine zW s.idx.length (fun j=> ∀ (i:Nat) (a:Ar) (x:Tm),i <j→s.idx[i]? =some a→l[i]? =some x→(fun(a:Ar) x=>if a.rc=true then zfg b base args m c x else zay b base args m x) a x=true)
  (fun j=>⟨envOf [(1,.int .i64 sort),(2,sT l),(3,.int .i64 c),(4,.ptr 4 0),(9,.int .i64 (j:Nat))],bkOf [(4,.box (cQ (plQ b base args m)))]⟩)
  (zfY ⟨zz rfl rfl,zz rfl rfl,zz rfl rfl,zz rfl rfl,zz rfl rfl,trivial⟩ ⟨zw rfl rfl,trivial⟩) (fun i a x hi=>absurd hi (Nat.not_lt_zero _)) ?_
 intro j hj hI
 repeat'(first|refine WL_p hty rfl rfl ?_|refine zi ?_|refine za ?_)
 refine zj rfl rfl rfl rfl (fun hc=>?_) (fun hc=>?_)
 ·have hlt:j <s.idx.length:=by rw[zeb]at hc;omega
  obtain⟨a,ha,_⟩:=zA hlt
  obtain⟨x,hx,hxm⟩:=zA (hlen▸hlt)
  have ra:=za6 ha
  have rx:=zac hx
  obtain⟨o1,o2,o3⟩:=ho x hxm
  have hcl:=zb8 b base args m x hb hl (by omega) o3 (by omega)
  have hgd:=zp3 b base args m c x hb hl (by omega) o3 (by omega)
  obtain⟨rc,tt,dd,so,ix⟩:=a
  cases rc
  ·repeat'(first|(refine zbF (id:=4) ?_;refine zab (zfY (l:=[(1,_),(2,_),(3,_),(4,_),(9,_)]) (bl:=[(4,_)]) ⟨zz rfl rfl,zz rfl rfl,zz rfl rfl,zz rfl rfl,zz rfl rfl,trivial⟩ ⟨zw rfl rfl,trivial⟩) ?_;refine zD (id:=4) zAj rfl (by kernel_rfl) ?_)|refine zbc rfl (zaq hty rfl rfl rfl hso1 rs rfl) ?_|refine zbc rfl (zm (i:=j) hty rfl rfl rfl ra rfl) ?_|refine zbc rfl (zm (i:=j) hty rfl rfl rfl rx rfl) ?_|refine zan rfl hcl rfl (fun _=>?_) (fun _=>?_)|refine zu (.inl ⟨rfl,zI hty rfl rfl⟩) ?_|refine zaG rfl rfl ?_|refine zau rfl rfl rfl ?_|refine zS ⟨by kernel_rfl,?_⟩|refine WL_p hty rfl rfl ?_|refine zh ?_|refine zi ?_|refine za ?_|refine zf ?_|refine zxg ?_|refine zd rfl ?_|refine zbZ rfl ?_|refine zg ?_|refine zb rfl ?_)
   ·refine⟨hlt,zbB hI ha hx ‹_›,(zfY ⟨zz rfl rfl,zz rfl rfl,zz rfl rfl,zz rfl rfl,⟨_,rfl,zO ?_ rfl⟩,trivial⟩ ⟨zw rfl rfl,trivial⟩)⟩
    exact congrArg (AV.int .i64) ((zy (by omega) (by omega)).trans (by omega))
   ·exact(zbR ha hx (by show zay b base args m x=false;assumption)).symm
  ·repeat'(first|(refine zbF (id:=4) ?_;refine zab (zfY (l:=[(1,_),(2,_),(3,_),(4,_),(9,_)]) (bl:=[(4,_)]) ⟨zz rfl rfl,zz rfl rfl,zz rfl rfl,zz rfl rfl,zz rfl rfl,trivial⟩ ⟨zw rfl rfl,trivial⟩) ?_;refine zD (id:=4) zAj rfl (by kernel_rfl) ?_)|refine zbc rfl (zaq hty rfl rfl rfl hso1 rs rfl) ?_|refine zbc rfl (zm (i:=j) hty rfl rfl rfl ra rfl) ?_|refine zbc rfl (zm (i:=j) hty rfl rfl rfl rx rfl) ?_|refine zan rfl hgd rfl (fun _=>?_) (fun _=>?_)|refine zu (.inl ⟨rfl,zI hty rfl rfl⟩) ?_|refine zaG rfl rfl ?_|refine zau rfl rfl rfl ?_|refine zav rfl rfl rfl ?_|refine zaw rfl rfl rfl ?_|refine zS ⟨by kernel_rfl,?_⟩|refine WL_p hty rfl rfl ?_|refine zh ?_|refine zi ?_|refine za ?_|refine zf ?_|refine zxg ?_|refine zd rfl ?_|refine zbZ rfl ?_|refine zg ?_|refine zb rfl ?_)
   ·refine⟨hlt,zbB hI ha hx ‹_›,(zfY ⟨zz rfl rfl,zz rfl rfl,zz rfl rfl,zz rfl rfl,⟨_,rfl,zO ?_ rfl⟩,trivial⟩ ⟨zw rfl rfl,trivial⟩)⟩
    exact congrArg (AV.int .i64) ((zy (by omega) (by omega)).trans (by omega))
   ·exact(zbR ha hx (by show zfg b base args m c x=false;assumption)).symm
 ·obtain rfl:j=s.idx.length:=by rw[zeb]at hc;omega
  repeat'(first|refine WL_p hty rfl rfl ?_|refine zh ?_|refine zi ?_|refine za ?_|refine zbZ rfl ?_|refine zl ?_|refine zg ?_|refine zb rfl ?_)
  exact(zfw fun i a x h1 h2=>hI i a x (List.getElem?_eq_some_iff.1 h1).1 h1 h2).symm
set_option maxRecDepth 4000 in
set_option maxHeartbeats 8000000 in
theorem zi1(b:Bl)(base c:Int)(l:List Ar)(hb:b.size≤1048576)(hl:zaH l≤1048576)(hseq:zaT b 0 l=true):FC Tryz.prog 129 [aB b,.int .i64 base,sA l,.int .i64 c] (.bool (ziH b base c l)):=by
 have hlen:=zae l
 refine zo hty Tryz.func129 rfl rfl rfl fun w0=>?_
 repeat'(first|refine WL_p hty rfl rfl ?_|refine zh ?_|refine zi ?_|refine za ?_|refine zf ?_)
 refine zW l.length (fun j=> ∀ (i:Nat) (a:Ar),i <j→l[i]? =some a→zht b base (l.take i) c a=true)
  (fun j=>⟨envOf [(1,.int .i64 base),(2,sA l),(3,.int .i64 c),(4,.ptr 4 0),(9,.int .i64 (j:Nat))],bkOf [(4,.box (cB b))]⟩)
  (zfY ⟨zz rfl rfl,zz rfl rfl,zz rfl rfl,zz rfl rfl,zz rfl rfl,trivial⟩ ⟨zw rfl rfl,trivial⟩) (fun i a hi=>absurd hi (Nat.not_lt_zero _)) ?_
 intro j hj hI
 repeat'(first|refine WL_p hty rfl rfl ?_|refine zi ?_|refine za ?_)
 refine zj rfl rfl rfl rfl (fun hc=>?_) (fun hc=>?_)
 ·have hlt:j <l.length:=by rw[zN]at hc;omega
  obtain⟨a,ha,ham⟩:=zA hlt
  have ra:=za6 ha
  have hag:=zjP hseq ha
  have has:=zaM ham
  unfold Ar.size at has
  have hnext:zht b base (l.take j) c a=true→ ∀ (i:Nat) (a:Ar),i <j+1→l[i]? =some a→zht b base (l.take i) c a=true:=fun hp i u hi hu=>by
   rcases Nat.lt_or_ge i j with q|q
   ·exact hI i u q hu
   ·obtain rfl:i=j:=by omega
    rw[ha]at hu
    obtain rfl:=Option.some.inj hu
    exact hp
  have hbad:zht b base (l.take j) c a=false→ziH b base c l=false:=fun hp=>Bool.eq_false_iff.2 fun q=>by rw[zhx.1 q j a ha]at hp;cases hp
  have htl:(l.take j).length≤1048576:=by rw[List.length_take];omega
  have hrt:zX (l.take j)=((zX l).take j).drop 0:=by rw[List.drop_zero,zf7,zf7,List.map_take]
  have hat:=zje b base (l.take j) htl
  rw[show sA (l.take j)=.lst 7 (((zX l).take j).drop 0) false from congrArg (fun r=>AV.lst 7 r false) hrt]at hat
  obtain⟨rc,tt,dd,so,ix⟩:=a
  simp only at has
  cases rc
  ·have hpa:zht b base (l.take j) c ⟨false,tt,dd,so,ix⟩=zay b base (l.take j) 0 tt:=rfl
   have hop:openT tt (j:Nat)=true:=by
    have:zbQ b ⟨false,tt,dd,so,ix⟩ (j:Nat)=(openT tt (j:Nat)&&(decide ((dd.length:Int)+ix.length=0)&&decide (so=0))):=rfl
    rw[this]at hag
    simp only[Bool.and_eq_true]at hag
    exact hag.1
   obtain⟨o1,o2,o3⟩:=zbT hop
   have hcl:=zb8 b base (l.take j) 0 tt hb htl (by omega) o3 (by omega)
   repeat'(first|(refine zD (id:=4) zAl rfl (by kernel_rfl) ?_)|(refine zD (id:=6) zBL rfl (by kernel_rfl) ?_)|refine zbc rfl (zbO hty 0 j rfl rfl rfl ⟨_,_,rfl,rfl⟩ (Nat.zero_le _) (by rw[zN];omega) rfl) ?_|refine zad 0 rfl hat rfl rfl rfl ?_|refine zan rfl hcl rfl (fun _=>?_) (fun _=>?_)|refine zu (.inl ⟨rfl,zI hty rfl rfl⟩) ?_|refine zu (.inl ⟨rfl,zm hty rfl rfl rfl (by assumption) rfl⟩) ?_|refine zS ⟨by kernel_rfl,?_⟩|refine WL_p hty rfl rfl ?_|refine zh ?_|refine zi ?_|refine za ?_|refine zf ?_|refine zxg ?_|refine zd rfl ?_|refine zbZ rfl ?_|refine zl ?_|refine zg ?_|refine WL_m rfl (zm hty rfl rfl rfl (by assumption) rfl) ?_|refine zb rfl ?_)
   ·rename_i hq
    refine⟨hlt,hnext (hpa.trans hq),(zfY ⟨zz rfl rfl,zz rfl rfl,zz rfl rfl,zz rfl rfl,⟨_,rfl,zO ?_ rfl⟩,trivial⟩ ⟨zw rfl rfl,trivial⟩)⟩
    exact congrArg (AV.int .i64) ((zy (by omega) (by omega)).trans (by omega))
   ·exact(hbad (hpa.trans ‹_›)).symm
  ·have hpa:zht b base (l.take j) c ⟨true,tt,dd,so,ix⟩=(zcP b base (l.take j) 0 dd&&zi3 b base (l.take j) dd.length c so ix):=rfl
   have hae:zbQ b ⟨true,tt,dd,so,ix⟩ (j:Nat)=((decide (tt=zT)&&(decide (dd.length≤12)&&(inR so 0 ((b.sorts.length:Int)-1)&&decide (ix.length=idxN b so))))&&(zCc (j:Nat) dd&&ix.all fun t=>openT t ((j:Nat)+dd.length))):=rfl
   rw[hae]at hag
   simp only[Bool.and_eq_true,decide_eq_true_eq,inR]at hag
   obtain⟨⟨_,a2,⟨a3,a4⟩,a5⟩,a6,a7⟩:=hag
   repeat'(first|(refine zD (id:=4) zAl rfl (by kernel_rfl) ?_)|refine zbc rfl (zbO hty 0 j rfl rfl rfl ⟨_,_,rfl,rfl⟩ (Nat.zero_le _) (by rw[zN];omega) rfl) ?_|refine zad 0 rfl hat rfl rfl rfl ?_|refine zu (.inl ⟨rfl,zI hty rfl rfl⟩) ?_|refine zS ⟨by kernel_rfl,?_⟩|refine WL_p hty rfl rfl ?_|refine zh ?_|refine zi ?_|refine za ?_|refine zf ?_|refine zxg ?_|refine zd rfl ?_|refine zbZ rfl ?_|refine WL_m rfl (zm hty rfl rfl rfl (by assumption) rfl) ?_)
   refine zW dd.length (fun k=>zcP b base (l.take j) 0 (dd.take k)=true)
    (fun k=>⟨envOf [(1,.int .i64 base),(2,sA l),(3,.int .i64 c),(4,.ptr 4 0),(9,.int .i64 (j:Nat)),(10,.ptr 10 0),(11,.int .i64 (k:Nat))],
      bkOf [(4,.box (cB b)),(10,.box (cQ (plQ b base (l.take j) 0)))]⟩)
    (zfY ⟨zz rfl rfl,zz rfl rfl,zz rfl rfl,zz rfl rfl,zz rfl rfl,zz rfl rfl,zz rfl rfl,trivial⟩ ⟨zw rfl rfl,zw rfl rfl,trivial⟩) rfl ?_
   intro k hk hJ
   repeat'(first|refine WL_m rfl (zm (i:=j) hty rfl rfl rfl ra rfl) ?_|refine WL_p hty rfl rfl ?_|refine zi ?_|refine za ?_)
   refine zj rfl rfl rfl rfl (fun hc2=>?_) (fun hc2=>?_)
   ·have hc2:(k:Int) <((rsT dd).length:Int):=hc2
    have hkl:k <dd.length:=by rw[zeb]at hc2;omega
    obtain⟨d,hd,hdm⟩:=zA hkl
    have rd:=zac hd
    obtain⟨o1,o2,o3⟩:=zbT (ziz a6 hd)
    have hcl:=zb8 b base (l.take j) k d hb htl (by omega) o3 (by omega)
    have hmo:=zgx b base (l.take j) 0 k htl (by omega)
    rw[Nat.zero_add]at hmo
    repeat'(first|(refine zD (id:=11) zBe rfl (by kernel_rfl) ?_)|refine zbc rfl (zm (i:=j) hty rfl rfl rfl ra rfl) ?_|refine zbc rfl (zm (i:=k) hty rfl rfl rfl rd rfl) ?_|refine zad 0 rfl hmo rfl rfl rfl ?_|refine zan rfl hcl rfl (fun _=>?_) (fun _=>?_)|refine zu (.inl ⟨rfl,zI hty rfl rfl⟩) ?_|refine zS ⟨by kernel_rfl,?_⟩|refine WL_p hty rfl rfl ?_|refine zh ?_|refine zi ?_|refine za ?_|refine zf ?_|refine zxg ?_|refine zd rfl ?_|refine zbZ rfl ?_|refine zg ?_|refine zb rfl ?_)
    all_goals rename_i hq
    ·refine⟨hkl,by rw[zj6 _ _ _ hd,hJ,hq];rfl,(zfY ⟨zz rfl rfl,zz rfl rfl,zz rfl rfl,zz rfl rfl,zz rfl rfl,zz rfl rfl,⟨_,rfl,zO ?_ rfl⟩,trivial⟩ ⟨zw rfl rfl,zw rfl rfl,trivial⟩)⟩
     exact congrArg (AV.int .i64) ((zy (by omega) (by omega)).trans (by omega))
    ·exact(hbad (by rw[hpa,zip _ _ _ hd,hq];simp)).symm
   ·have hc2: ¬(k:Int) <((rsT dd).length:Int):=hc2
    obtain rfl:k=dd.length:=by rw[zeb]at hc2;omega
    rw[List.take_length]at hJ
    have hmo:=zgx b base (l.take j) 0 dd.length htl (by omega)
    rw[Nat.zero_add, ←zeb dd]at hmo
    rw[zeb dd]at hmo
    have hmo':FC Tryz.prog 172 [aQ (plQ b base (l.take j) 0),.int .i64 ((rsT dd).length:Nat)] (aQ (plQ b base (l.take j) dd.length)):=by rw[zeb];exact hmo
    have hix:=zge b base (l.take j) dd.length c so ix hb htl (by omega) ⟨a3,by omega⟩ a5 (fun x hx=>zbT (List.all_eq_true.1 a7 x hx))
    repeat'(first|(refine zD (id:=13) zBq rfl (by kernel_rfl) ?_)|refine zbc rfl (zm (i:=j) hty rfl rfl rfl ra rfl) ?_|refine zad 0 rfl hmo' rfl rfl rfl ?_|refine zan rfl hix rfl (fun _=>?_) (fun _=>?_)|refine zu (.inl ⟨rfl,zI hty rfl rfl⟩) ?_|refine zS ⟨by kernel_rfl,?_⟩|refine WL_p hty rfl rfl ?_|refine zh ?_|refine zi ?_|refine za ?_|refine zxg ?_|refine zd rfl ?_|refine zbZ rfl ?_|refine zl ?_|refine zg ?_|refine zb rfl ?_)
    all_goals rename_i hq
    ·refine⟨hlt,hnext (by rw[hpa,hJ,hq];rfl),(zfY ⟨zz rfl rfl,zz rfl rfl,zz rfl rfl,zz rfl rfl,⟨_,rfl,zO ?_ rfl⟩,trivial⟩ ⟨zw rfl rfl,trivial⟩)⟩
     exact congrArg (AV.int .i64) ((zy (by omega) (by omega)).trans (by omega))
    ·exact(hbad (by rw[hpa,hq];simp)).symm
 ·obtain rfl:j=l.length:=by rw[zN]at hc;omega
  repeat'(first|refine WL_p hty rfl rfl ?_|refine zh ?_|refine zi ?_|refine za ?_|refine zbZ rfl ?_|refine zl ?_|refine zg ?_|refine zb rfl ?_)
  exact(zhx.2 fun i a h1=>hI i a (List.getElem?_eq_some_iff.1 h1).1 h1).symm
end Go.Proofs.YtokfbblhjpfjkaaGreat
namespace Go.Proofs.YtokfbblhjpfjkaaGreat
open Go.Aw Go.RowKit
def zAg:List (Nat×List Nat):=[(0,[]),(1,[]),(2,[]),(3,[2]),(4,[0,1,2,3]),(5,[0,1,2,3,4]),(6,[0,1,2,3,4,5]),(7,[0,1,2,3,4,5,6]),(8,[0,1,2,3,4,5,6,7]),(9,[0,1,2,3,4,5,6,7,8]),(10,[0,1,2,3,4,5,6,7,8,9]),(11,[0,1,2,3,4,5,6,7,8,9]),(12,[0,1,2,3,4,5,6,7,8,9]),(13,[0,1,2,3,4,5,6,7,8,9,12]),(14,[0,1,2,3,4,5,6,7,8,9,10,11,12,13]),(15,[0,1,2,3,4,5,6,7,8,9]),(16,[0,1,2,3,4,5,6,7,8,9,15]),(17,[0,1,2,3,4,5,6,7,8,9,10,11,12,13,14,15,16]),(18,[0,1,2,3,4,5,6,7,8,9,10,11,12,13,14,15,16,17]),(19,[0,1,2,3,4,5,6,7,8,9,10,11,12,13,14,15,16,17,18]),(20,[0,1,2,3,4,5,6,7,8,9,10,11,12,13,14,15,16,17,18,19])]
attribute [local irreducible] WL AC WD WE MStep OkOp
attribute [local irreducible] zay zfg
set_option maxRecDepth 4000 in
set_option maxHeartbeats 16000000 in
theorem zny(b:Bl)(base:Int)(hb:b.size≤1048576):FC Tryz.prog 85 [aB b,.int .i64 base] (.int .i64 (zbz b base)):=by
 have hsc:=znP b hb
 have hb':b.size=zbh b.sorts+zbg b.cons:=rfl
 have hsl:=zaa b.sorts
 have hcl:=zak b.cons
 by_cases hsh:zaS b=true
 case neg=>
  rw[Bool.eq_false_iff.2 hsh]at hsc
  have hp:zbz b base=12:=by unfold zbz;rw[if_neg hsh]
  rw[hp]
  refine zo hty Tryz.func85 rfl rfl rfl fun w0=>?_
  repeat'(first|refine zv 0 rfl hsc rfl rfl rfl ?_|refine WL_p hty rfl rfl ?_|refine zh ?_|refine zi ?_|refine za ?_|refine zd rfl ?_|refine zg ?_)
  exact zaQ rfl rfl
 rw[hsh]at hsc
 by_cases hba:inR base 0 65535=true
 case neg=>
  have hba':=Bool.eq_false_iff.2 hba
  have hp:zbz b base=1:=by
   unfold zbz;rw[if_pos hsh]
   rw[zeV]at hba'
   split
   ·rfl
   ·rw[if_pos (by omega)]
  have hi:=zbS base 0 65535
  rw[hba']at hi
  rw[hp]
  refine zo hty Tryz.func85 rfl rfl rfl fun w0=>?_
  repeat'(first|refine zv 0 rfl hsc rfl rfl rfl ?_|refine zv 0 rfl hi rfl rfl rfl ?_|refine WL_p hty rfl rfl ?_|refine zh ?_|refine zi ?_|refine za ?_|refine zxg ?_|refine zd rfl ?_|refine zbZ rfl ?_|refine zg ?_)
  exact zaQ rfl rfl
 have hi:=zbS base 0 65535
 rw[hba]at hi
 have hp:zbz b base=if(b.sorts.all (zdl b base)&&zfJ b base)=true then 0 else 11:=by
  unfold zbz
  rw[zec]at hba
  rw[if_pos hsh,if_neg (by omega),if_neg (by omega)]
 rw[hp]
 refine zo hty Tryz.func85 rfl rfl rfl fun w0=>?_
 repeat'(first|refine zv 0 rfl hsc rfl rfl rfl ?_|refine zv 0 rfl hi rfl rfl rfl ?_|refine WL_p hty rfl rfl ?_|refine zh ?_|refine zi ?_|refine za ?_|refine zf ?_|refine zxg ?_|refine zbZ rfl ?_)
 refine zW b.sorts.length (fun j=> ∀ (i:Nat) (s:Sr),i <j→b.sorts[i]? =some s→zdl b base s=true)
  (fun j=>⟨envOf [(1,.int .i64 base),(2,.ptr 2 0),(5,.int .i64 (j:Nat))],bkOf [(2,.box (cB b))]⟩)
  (zfY ⟨zz rfl rfl,zz rfl rfl,zz rfl rfl,trivial⟩ ⟨zw rfl rfl,trivial⟩) (fun i s hi=>absurd hi (Nat.not_lt_zero _)) ?_
 intro j hj hI
 repeat'(first|refine WL_p hty rfl rfl ?_|refine zi ?_|refine za ?_)
 refine zj rfl rfl rfl rfl (fun hc=>?_) (fun hc=>?_)
 ·have hlt:j <b.sorts.length:=by rw[zQ]at hc;omega
  obtain⟨s,hs,hsm⟩:=zA hlt
  have rs:=zaK hs
  have hsz:=zat hsm
  have hs2:s.size=zaH s.idx+s.decT.size:=rfl
  have hla:=zae s.idx
  have hsb:=ze1 hsh hs
  have hrow:=zi1 b base 0 s.idx hb (by omega) (zlb hsb)
  have hnext:zdl b base s=true→ ∀ (i:Nat) (s:Sr),i <j+1→b.sorts[i]? =some s→zdl b base s=true:=fun hp i u hi hu=>by
   rcases Nat.lt_or_ge i j with q|q
   ·exact hI i u q hu
   ·obtain rfl:i=j:=by omega
    rw[hs]at hu
    obtain rfl:=Option.some.inj hu
    exact hp
  have hbad:zdl b base s=false→ ¬(b.sorts.all (zdl b base)&&zfJ b base)=true:=fun hp q=>by
   simp only[Bool.and_eq_true]at q
   rw[List.all_eq_true.1 q.1 s hsm]at hp;cases hp
  have hat:=zje b base s.idx (by omega)
  have hcl2:s.dec=true→FC Tryz.prog 131 [aQ (plQ b base s.idx 0),aT s.decT] (.bool (zay b base s.idx 0 s.decT)):=fun hd=>by
   obtain⟨o1,o2,o3⟩:=zbT (zk9 hsb hd)
   exact zb8 b base s.idx 0 s.decT hb (by omega) (by omega) o3 (by omega)
  have hsp:zdl b base s=(ziH b base 0 s.idx&&(!s.dec||zay b base s.idx 0 s.decT)):=rfl
  have hfin:(AV.int .i64 (IntKind.i64.wrap ((j:Nat)+1)))=.int .i64 ((j+1:Nat):Int):=congrArg (AV.int .i64) ((zy (by omega) (by omega)).trans (by omega))
  obtain⟨sx,sl,sd,st⟩:=s
  cases sd
  ·repeat'(first|(refine zbF (id:=9) ?_;refine zab (zfY (l:=[(1,_),(2,_),(5,_),(6,_)]) (bl:=[(2,_),(6,_)]) ⟨zz rfl rfl,zz rfl rfl,zz rfl rfl,zz rfl rfl,trivial⟩ ⟨zw rfl rfl,zw rfl rfl,trivial⟩) ?_;refine zD (id:=9) zAg rfl (by kernel_rfl) ?_)|refine zan rfl hrow rfl (fun _=>?_) (fun _=>?_)|refine zu (.inl ⟨rfl,zI hty rfl rfl⟩) ?_|refine zaG rfl rfl ?_|refine zau rfl rfl rfl ?_|refine zav rfl rfl rfl ?_|refine zaw rfl rfl rfl ?_|refine zS ⟨by kernel_rfl,?_⟩|refine WL_p hty rfl rfl ?_|refine zh ?_|refine zi ?_|refine za ?_|refine zf ?_|refine zxg ?_|refine zd rfl ?_|refine zbZ rfl ?_|refine zg ?_|refine WL_m rfl (zm hty rfl rfl rfl (by assumption) rfl) ?_)
   all_goals rename_i hq
   ·(refine⟨hlt,hnext (by rw[hsp,hq];rfl),(zfY ⟨zz rfl rfl,zz rfl rfl,⟨_,rfl,zO ?_ rfl⟩,trivial⟩ ⟨zw rfl rfl,trivial⟩)⟩;exact hfin)
   ·refine zaQ rfl ?_
    rw[if_neg (hbad (by rw[hsp,hq];rfl))]
  ·have hcl3:=hcl2 rfl
   repeat'(first|(refine zbF (id:=9) ?_;refine zab (zfY (l:=[(1,_),(2,_),(5,_),(6,_)]) (bl:=[(2,_),(6,_)]) ⟨zz rfl rfl,zz rfl rfl,zz rfl rfl,zz rfl rfl,trivial⟩ ⟨zw rfl rfl,zw rfl rfl,trivial⟩) ?_;refine zD (id:=9) zAg rfl (by kernel_rfl) ?_)|refine zan rfl hrow rfl (fun _=>?_) (fun _=>?_)|refine zad 0 rfl hat rfl rfl rfl ?_|refine zan rfl hcl3 rfl (fun _=>?_) (fun _=>?_)|refine zu (.inl ⟨rfl,zI hty rfl rfl⟩) ?_|refine zaG rfl rfl ?_|refine zav rfl rfl rfl ?_|refine zaw rfl rfl rfl ?_|refine zS ⟨by kernel_rfl,?_⟩|refine WL_p hty rfl rfl ?_|refine zh ?_|refine zi ?_|refine za ?_|refine zf ?_|refine zxg ?_|refine zd rfl ?_|refine zbZ rfl ?_|refine zg ?_|refine WL_m rfl (zm hty rfl rfl rfl (by assumption) rfl) ?_)
   ·rename_i hq hq2
    (refine⟨hlt,hnext (by rw[hsp,hq,hq2];rfl),(zfY ⟨zz rfl rfl,zz rfl rfl,⟨_,rfl,zO ?_ rfl⟩,trivial⟩ ⟨zw rfl rfl,trivial⟩)⟩;exact hfin)
   ·rename_i hq hq2
    refine zaQ rfl ?_
    rw[if_neg (hbad (by rw[hsp,hq,hq2];rfl))]
   ·rename_i hq
    refine zaQ rfl ?_
    rw[if_neg (hbad (by rw[hsp,hq];rfl))]
 ·obtain rfl:j=b.sorts.length:=by rw[zQ]at hc;omega
  have hall:b.sorts.all (zdl b base)=true:=List.all_eq_true.2 fun s hs=>by
   obtain⟨i,hi,rfl⟩:=List.mem_iff_getElem.1 hs
   exact hI i _ hi (List.getElem?_eq_getElem hi)
  rw[hall,Bool.true_and]
  repeat'(first|refine WL_p hty rfl rfl ?_|refine zh ?_|refine zi ?_|refine za ?_|refine zf ?_|refine zbZ rfl ?_|refine zl ?_)
  refine zW b.cons.length (fun j=> ∀ (i:Nat) (x:Cn),i <j→b.cons[i]? =some x→zgS b base (i:Nat) x=true)
   (fun j=>⟨envOf [(1,.int .i64 base),(2,.ptr 2 0),(7,.int .i64 (j:Nat))],bkOf [(2,.box (cB b))]⟩)
   (zfY ⟨zz rfl rfl,zz rfl rfl,zz rfl rfl,trivial⟩ ⟨zw rfl rfl,trivial⟩) (fun i s hi=>absurd hi (Nat.not_lt_zero _)) ?_
  intro j hj hI
  repeat'(first|refine WL_p hty rfl rfl ?_|refine zi ?_|refine za ?_)
  refine zj rfl rfl rfl rfl (fun hc=>?_) (fun hc=>?_)
  ·have hlt:j <b.cons.length:=by rw[zZ]at hc;omega
   obtain⟨x,hx,hxm⟩:=zA hlt
   have rx:=zby hx
   have hsz:=zaB hxm
   have hs2:x.size=zaH x.args+sizes x.idx+x.dec.size:=rfl
   have hla:=zae x.args
   obtain⟨f1,f2,f3,f4,f5⟩:=zkf (zfp hsh hxm)
   have f10:=f1.1
   obtain⟨s,hs,_⟩:=zA f1.2
   have rs:=zaK hs
   have hds:decS b x.sort=s.dec:=by unfold decS;rw[hs]
   have hat:=zje b base x.args (by omega)
   have hrow:=zi1 b base (j:Nat) x.args hb (by omega) f3
   have hidx:FC Tryz.prog 132 [aQ (plQ b base x.args 0),.int .i64 x.sort,sT x.idx,.int .i64 (j:Nat)] (.bool (zi3 b base x.args 0 (j:Nat) x.sort x.idx)):=zge b base x.args 0 (j:Nat) x.sort x.idx hb (by omega) (by omega) f1 f2 (fun y hy=>zbT (f4 y hy))
   have hnext:zgS b base (j:Nat) x=true→ ∀ (i:Nat) (x:Cn),i <j+1→b.cons[i]? =some x→zgS b base (i:Nat) x=true:=fun hp i u hi hu=>by
    rcases Nat.lt_or_ge i j with q|q
    ·exact hI i u q hu
    ·obtain rfl:i=j:=by omega
     rw[hx]at hu
     obtain rfl:=Option.some.inj hu
     exact hp
   have hbad:zgS b base (j:Nat) x=false→ ¬zfJ b base=true:=fun hp q=>by
    rw[zDV.1 q j x hx]at hp;cases hp
   have hcl2:s.dec=true→FC Tryz.prog 131 [aQ (plQ b base x.args 0),aT x.dec] (.bool (zay b base x.args 0 x.dec)):=fun hd=>by
    obtain⟨o1,o2,o3⟩:=zbT (f5 (hds.trans hd))
    exact zb8 b base x.args 0 x.dec hb (by omega) (by omega) o3 (by omega)
   have hsp:zgS b base (j:Nat) x=(ziH b base (j:Nat) x.args&&(zi3 b base x.args 0 (j:Nat) x.sort x.idx&&(!s.dec||zay b base x.args 0 x.dec))):=by unfold zgS;rw[hds]
   have hfin:(AV.int .i64 (IntKind.i64.wrap ((j:Nat)+1)))=.int .i64 ((j+1:Nat):Int):=congrArg (AV.int .i64) ((zy (by omega) (by omega)).trans (by omega))
   obtain⟨sx,sl,sd,st⟩:=s
   cases sd
   ·repeat'(first|refine zv 0 rfl hat rfl rfl rfl ?_|refine zL rfl hrow rfl (fun _=>?_) (fun _=>?_)|refine zL rfl hidx rfl (fun _=>?_) (fun _=>?_)|refine WL_m rfl (zaq hty rfl rfl rfl f10 rs rfl) ?_|refine WL_p hty rfl rfl ?_|refine zh ?_|refine zi ?_|refine za ?_|refine zf ?_|refine zxg ?_|refine zd rfl ?_|refine zbZ rfl ?_|refine zg ?_|refine zx rfl rfl ?_|refine zq rfl rfl rfl ?_|refine zot rfl rfl rfl ?_|refine zr rfl rfl rfl ?_|refine WL_m rfl (zm hty rfl rfl rfl (by assumption) rfl) ?_)
    ·rename_i hq hq2
     (refine⟨hlt,hnext (by rw[hsp,hq,hq2];rfl),(zfY ⟨zz rfl rfl,zz rfl rfl,⟨_,rfl,zO ?_ rfl⟩,trivial⟩ ⟨zw rfl rfl,trivial⟩)⟩;exact hfin)
    ·rename_i hq hq2
     refine zaQ rfl ?_
     rw[if_neg (hbad (by rw[hsp,hq,hq2];rfl))]
    ·rename_i hq
     refine zaQ rfl ?_
     rw[if_neg (hbad (by rw[hsp,hq];rfl))]
   ·have hcl3:=hcl2 rfl
    repeat'(first|refine zv 0 rfl hat rfl rfl rfl ?_|refine zL rfl hrow rfl (fun _=>?_) (fun _=>?_)|refine zL rfl hidx rfl (fun _=>?_) (fun _=>?_)|refine zL rfl hcl3 rfl (fun _=>?_) (fun _=>?_)|refine WL_m rfl (zaq hty rfl rfl rfl f10 rs rfl) ?_|refine WL_p hty rfl rfl ?_|refine zh ?_|refine zi ?_|refine za ?_|refine zf ?_|refine zxg ?_|refine zd rfl ?_|refine zbZ rfl ?_|refine zg ?_|refine zx rfl rfl ?_|refine zot rfl rfl rfl ?_|refine zr rfl rfl rfl ?_|refine WL_m rfl (zm hty rfl rfl rfl (by assumption) rfl) ?_)
    ·rename_i hq hq2 hq3
     (refine⟨hlt,hnext (by rw[hsp,hq,hq2,hq3];rfl),(zfY ⟨zz rfl rfl,zz rfl rfl,⟨_,rfl,zO ?_ rfl⟩,trivial⟩ ⟨zw rfl rfl,trivial⟩)⟩;exact hfin)
    ·rename_i hq hq2 hq3
     refine zaQ rfl ?_
     rw[if_neg (hbad (by rw[hsp,hq,hq2,hq3];rfl))]
    ·rename_i hq hq2
     refine zaQ rfl ?_
     rw[if_neg (hbad (by rw[hsp,hq,hq2];rfl))]
    ·rename_i hq
     refine zaQ rfl ?_
     rw[if_neg (hbad (by rw[hsp,hq];rfl))]
  ·obtain rfl:j=b.cons.length:=by rw[zZ]at hc;omega
   have hcp:zfJ b base=true:=zDV.2 fun i x hx=>hI i x (List.getElem?_eq_some_iff.1 hx).1 hx
   repeat'(first|refine WL_p hty rfl rfl ?_|refine zh ?_|refine zi ?_|refine za ?_|refine zbZ rfl ?_|refine zl ?_|refine zg ?_)
   refine zaQ rfl ?_
   rw[if_pos hcp]
end Go.Proofs.YtokfbblhjpfjkaaGreat
namespace Go.Proofs.YtokfbblhjpfjkaaGreat
open Go.Aw Go.RowKit
def zBJ:List (Nat×List Nat):=[(0,[]),(1,[]),(2,[]),(3,[1,2]),(4,[1,2,3]),(5,[1,2,3,4]),(6,[1,2,3,4,5]),(7,[1,2,3,4,5,6]),(8,[]),(9,[]),(10,[8,9]),(11,[8,9,10]),(12,[8,9,10,11]),(13,[1,2,3,4,5,6,7,8,9,10,11,12]),(14,[]),(15,[]),(16,[14,15]),(17,[14,15,16]),(18,[14,15,16,17]),(19,[1,2,3,4,5,6,7,8,9,10,11,12,13,14,15,16,17,18]),(20,[1,2,3,4,5,6,7,8,9,10,11,12,13,14,15,16,17,18,19]),(21,[1,2,3,4,5,6,7,8,9,10,11,12,13,14,15,16,17,18,19,20]),(22,[0,1,2,3,4,5,6,7,8,9,10,11,12,13,14,15,16,17,18,19,20,21]),(23,[0,1,2,3,4,5,6,7,8,9,10,11,12,13,14,15,16,17,18,19,20,21,22])]
def zB2:List (Nat×List Nat):=[(0,[]),(1,[]),(2,[1]),(3,[]),(4,[1,2,3]),(5,[1,2,3,4]),(6,[1,2,3,4,5]),(7,[1,2,3,4,5,6]),(8,[]),(9,[8]),(10,[]),(11,[8,9,10]),(12,[8,9,10,11]),(13,[8,9,10,11,12]),(14,[8,9,10,11,12,13]),(15,[1,2,3,4,5,6,7,8,9,10,11,12,13,14]),(16,[1,2,3,4,5,6,7,8,9,10,11,12,13,14,15]),(17,[0,1,2,3,4,5,6,7,8,9,10,11,12,13,14,15,16]),(18,[0,1,2,3,4,5,6,7,8,9,10,11,12,13,14,15,16,17])]
def zB8:List (Nat×List Nat):=[(0,[]),(1,[]),(2,[1]),(3,[]),(4,[1,2,3]),(5,[1,2,3,4]),(6,[1,2,3,4,5]),(7,[1,2,3,4,5,6]),(8,[]),(9,[8]),(10,[]),(11,[8,9,10]),(12,[8,9,10,11]),(13,[8,9,10,11,12]),(14,[8,9,10,11,12,13]),(15,[1,2,3,4,5,6,7,8,9,10,11,12,13,14]),(16,[]),(17,[16]),(18,[]),(19,[16,17,18]),(20,[16,17,18,19]),(21,[16,17,18,19,20]),(22,[1,2,3,4,5,6,7,8,9,10,11,12,13,14,15,16,17,18,19,20,21]),(23,[1,2,3,4,5,6,7,8,9,10,11,12,13,14,15,16,17,18,19,20,21,22]),(24,[1,2,3,4,5,6,7,8,9,10,11,12,13,14,15,16,17,18,19,20,21,22,23]),(25,[0,1,2,3,4,5,6,7,8,9,10,11,12,13,14,15,16,17,18,19,20,21,22,23,24]),(26,[0,1,2,3,4,5,6,7,8,9,10,11,12,13,14,15,16,17,18,19,20,21,22,23,24,25])]
attribute [local irreducible] WL AC WD WE MStep OkOp
def gmx(l:List Tm):Int:=zbw l (-1)
theorem zqO(a b:Int):gI a b=gI b a:=by unfold gI;split <;>split <;>omega
theorem zfB(a b c:Int):gI (gI a b) c=gI a (gI b c):=by
 unfold gI
 repeat' split
 all_goals omega
theorem zjo(l:List Tm){a:Int}(h: -1≤a):zbw l a=gI a (gmx l):=by
 have:=zgZ l a (-1)
 rwa[show gI a (-1)=a by unfold gI;split <;>omega]at this
theorem zpv(l:List Tm): -1≤gmx l:=zfX l (-1)
theorem zb7(l m:List Tm):gmx (l++m)=gI (gmx l) (gmx m):=by
 unfold gmx
 rw[zgd]
 exact zjo m (zpv l)
theorem zsJ{l:List Tm}{i:Nat}{t:Tm}(h:l[i]? =some t):gmx (l.take (i+1))=gI (gmx (l.take i)) (gmx [t]):=by
 rw[List.take_add_one,h,Option.toList_some,zb7]
theorem ztN(t:Tm):gmx [t]=gI (if t.kind=3 then gI (-1) t.num else -1) (gmx t.kids):=by
 cases t with
 |mk k n l=>
  show zbw l (if k=3 then gI (-1) n else -1)=_
  refine zjo l ?_
  split
  ·exact(zqq _ _).1
  ·exact Int.le_refl _
theorem zsG{a:Int}(h: -1≤a):gI a (-1)=a:=by unfold gI;split <;>omega
theorem zem{α:Type}{f:α→List Tm}{l:List α}{i:Nat}{a:α}(h:l[i]? =some a):gmx ((l.take (i+1)).flatMap f)=gI (gmx ((l.take i).flatMap f)) (gmx (f a)):=by
 rw[List.take_add_one,h,Option.toList_some,List.flatMap_append,zb7]
 simp
set_option maxHeartbeats 1000000 in
theorem zlO: ∀ n,n≤1048576→ ∀ l:List Tm,sizes l≤n→FC Tryz.prog 134 [sT l] (.int .i64 (gmx l)):=by
 intro n
 induction n with
 |zero=>
  intro hn l hl
  cases l with
  |nil=>
   refine zo hty Tryz.func134 rfl rfl rfl fun w0=>?_
   repeat'(first|refine WL_p hty rfl rfl ?_|refine zh ?_|refine zi ?_|refine za ?_|refine zf ?_)
   refine zW 0 (fun _=>True) (fun j=>⟨envOf [(0,sT []),(3,.int .i64 (-1)),(4,.int .i64 (j:Nat))],bkOf []⟩) (zfY ⟨zz rfl rfl,zz rfl rfl,zz rfl rfl,trivial⟩ trivial) trivial ?_
   intro j hj _
   repeat'(first|refine WL_p hty rfl rfl ?_|refine zi ?_|refine za ?_)
   refine zj rfl rfl rfl rfl (fun hc=>?_) (fun hc=>?_)
   ·exact absurd hc (show ¬(j:Int) <0 by omega)
   ·repeat'(first|refine WL_p hty rfl rfl ?_|refine zh ?_|refine zi ?_|refine za ?_|refine zbZ rfl ?_|refine zl ?_|refine zg ?_)
    exact zaQ rfl rfl
  |cons t l=>have:=t.size_pos;simp only[sizes]at hl;omega
 |succ n ih=>
 intro hn l hl
 have ih:=ih (by omega)
 have hlen:=zM l
 refine zo hty Tryz.func134 rfl rfl rfl fun w0=>?_
 repeat'(first|refine WL_p hty rfl rfl ?_|refine zh ?_|refine zi ?_|refine za ?_|refine zf ?_)
 refine zW l.length (fun _=>True) (fun j=>⟨envOf [(0,sT l),(3,.int .i64 (gmx (l.take j))),(4,.int .i64 (j:Nat))],bkOf []⟩) (zfY ⟨zz rfl rfl,zz rfl rfl,zz rfl rfl,trivial⟩ trivial) trivial ?_
 intro j hj _
 repeat'(first|refine WL_p hty rfl rfl ?_|refine zi ?_|refine za ?_)
 refine zj rfl rfl rfl rfl (fun hc=>?_) (fun hc=>?_)
 ·have hlt:j <l.length:=by rw[zeb]at hc;omega
  obtain⟨t,ht,hmem⟩:=zA hlt
  have rt:=zac ht
  have hts:=zK hmem
  have hs:=t.size_eq
  have hk:=ih t.kids (by omega)
  have hnx:=zsJ ht
  have hge:=zpv (l.take j)
  rw[ztN]at hnx
  repeat'(first|refine WL_m rfl (zey rfl rfl rfl) ?_|refine zv 0 rfl hk rfl rfl rfl ?_|refine WL_p hty rfl rfl ?_|refine zh ?_|refine zi ?_|refine za ?_|refine zf ?_|refine zxg ?_|refine zd rfl ?_|refine zbZ rfl ?_|refine WL_m rfl (zm hty rfl rfl rfl (by assumption) rfl) ?_|refine zj rfl rfl rfl rfl (fun _=>?_) (fun _=>?_))
  all_goals
   refine⟨hlt,trivial,(zfY ⟨zz rfl rfl,⟨_,rfl,zO ?_ rfl⟩,⟨_,rfl,zO ?_ rfl⟩,trivial⟩ trivial)⟩
   ·rw[hnx]
    refine congrArg (AV.int .i64) ?_
    rename_i hq
    first
     |(rw[if_pos hq, ←zfB, ←zfB,zsG hge];rfl)
     |(rw[if_neg hq, ←zfB,zsG hge];rfl)
   ·exact congrArg (AV.int .i64) ((zy (by omega) (by omega)).trans (by omega))
 ·obtain rfl:j=l.length:=by rw[zeb]at hc;omega
  rw[List.take_length]
  repeat'(first|refine WL_p hty rfl rfl ?_|refine zh ?_|refine zi ?_|refine za ?_|refine zbZ rfl ?_|refine zl ?_|refine zg ?_)
  exact zaQ rfl rfl
theorem zc4(l:List Tm)(h:sizes l≤1048576):FC Tryz.prog 134 [sT l] (.int .i64 (gmx l)):=zlO 1048576 (Nat.le_refl _) l h
theorem zd1(t:Tm)(h:t.size≤1048576):FC Tryz.prog 134 [.lst 3 [cT t] true] (.int .i64 (gmx [t])):=by
 have:=(zc4 [t] (by simpa[sizes]using h)).args (xs:=[.lst 3 [cT t] true]) (by show Wks _ [.lst 3 (rsT [t]) false];rw[rs1];exact .cons (.full _ _ _) .nil)
 exact this
set_option maxHeartbeats 1000000 in
theorem zji(l:List Ar)(h:zaH l≤1048576):FC Tryz.prog 133 [sA l] (.int .i64 (gmx (zaN l))):=by
 have hlen:=zae l
 refine zo hty Tryz.func133 rfl rfl rfl fun w0=>?_
 repeat'(first|refine WL_p hty rfl rfl ?_|refine zh ?_|refine zi ?_|refine za ?_|refine zf ?_)
 refine zW l.length (fun _=>True) (fun j=>⟨envOf [(0,sA l),(3,.int .i64 (gmx (zaN (l.take j)))),(4,.int .i64 (j:Nat))],bkOf []⟩) (zfY ⟨zz rfl rfl,zz rfl rfl,zz rfl rfl,trivial⟩ trivial) trivial ?_
 intro j hj _
 repeat'(first|refine WL_p hty rfl rfl ?_|refine zi ?_|refine za ?_)
 refine zj rfl rfl rfl rfl (fun hc=>?_) (fun hc=>?_)
 ·have hlt:j <l.length:=by rw[zN]at hc;omega
  obtain⟨a,ha,hmem⟩:=zA hlt
  have ra:=za6 ha
  have has:=zaM hmem
  unfold Ar.size at has
  have h1:=zd1 a.typ (by omega)
  have h2:=zc4 a.dom (by omega)
  have h3:=zc4 a.idx (by omega)
  have hnx:gmx (zaN (l.take (j+1)))=gI (gmx (zaN (l.take j))) (gI (gmx [a.typ]) (gI (gmx a.dom) (gmx a.idx))):=by
   unfold zaN
   rw[zem ha,show zpf a=[a.typ]++(a.dom++a.idx)from rfl,zb7,zb7]
  repeat'(first|(refine zD (id:=5) zBJ rfl (by kernel_rfl) ?_)|refine zu (.inl ⟨rfl,zar 0 rfl h1 rfl rfl rfl⟩) ?_|refine zu (.inl ⟨rfl,zar 0 rfl h2 rfl rfl rfl⟩) ?_|refine zu (.inl ⟨rfl,zar 0 rfl h3 rfl rfl rfl⟩) ?_|refine zu (.inl ⟨rfl,zey rfl rfl rfl⟩) ?_|refine zu (.inl ⟨rfl,zI hty rfl rfl⟩) ?_|refine zu (.inl ⟨rfl,zm hty rfl rfl rfl (by assumption) rfl⟩) ?_|refine zS ⟨by kernel_rfl,?_⟩|refine WL_p hty rfl rfl ?_|refine zh ?_|refine zi ?_|refine za ?_|refine zf ?_|refine zxg ?_|refine zd rfl ?_)
  refine⟨hlt,trivial,(zfY ⟨zz rfl rfl,⟨_,rfl,zO ?_ rfl⟩,⟨_,rfl,zO ?_ rfl⟩,trivial⟩ trivial)⟩
  ·rw[hnx];rfl
  ·exact congrArg (AV.int .i64) ((zy (by omega) (by omega)).trans (by omega))
 ·obtain rfl:j=l.length:=by rw[zN]at hc;omega
  rw[List.take_length]
  repeat'(first|refine WL_p hty rfl rfl ?_|refine zh ?_|refine zi ?_|refine za ?_|refine zbZ rfl ?_|refine zl ?_|refine zg ?_)
  exact zaQ rfl rfl
set_option maxHeartbeats 4000000 in
theorem zoT(b:Bl)(h:b.size≤1048576):FC Tryz.prog 86 [aB b] (.int .i64 (zkb b)):=by
 unfold Bl.size at h
 have hsl:=zaa b.sorts
 have hcl:=zak b.cons
 have hres:zkb b=gI (gmx (za5 b.sorts)) (gmx (zbt b.cons)):=by
  show gmx (za5 b.sorts++zbt b.cons)=_
  rw[zb7]
 rw[hres]
 refine zo hty Tryz.func86 rfl rfl rfl fun w0=>?_
 repeat'(first|refine WL_p hty rfl rfl ?_|refine zh ?_|refine zi ?_|refine za ?_|refine zf ?_)
 refine zW b.sorts.length (fun _=>True) (fun j=>⟨envOf [(1,.ptr 1 0),(3,.int .i64 (gmx (za5 (b.sorts.take j)))),(4,.int .i64 (j:Nat))],bkOf [(1,.box (cB b))]⟩) (zfY ⟨zz rfl rfl,zz rfl rfl,zz rfl rfl,trivial⟩ ⟨zw rfl rfl,trivial⟩) trivial ?_
 intro j hj _
 repeat'(first|refine WL_p hty rfl rfl ?_|refine zi ?_|refine za ?_)
 refine zj rfl rfl rfl rfl (fun hc=>?_) (fun hc=>?_)
 ·have hlt:j <b.sorts.length:=by rw[zQ]at hc;omega
  obtain⟨s,hs,hmem⟩:=zA hlt
  have rs:=zaK hs
  have hss:=zat hmem
  unfold Sr.size at hss
  have h1:=zji s.idx (by omega)
  have h2:=zd1 s.decT (by omega)
  have hnx:gmx (za5 (b.sorts.take (j+1)))=gI (gmx (za5 (b.sorts.take j))) (gI (gmx (zaN s.idx)) (gmx [s.decT])):=by
   unfold za5
   rw[zem hs,show zrG s=[s.decT]++zaN s.idx from rfl,zb7,zqO (gmx [s.decT])]
  repeat'(first|(refine zD (id:=5) zB2 rfl (by kernel_rfl) ?_)|refine zu (.inl ⟨rfl,zar 0 rfl h1 rfl rfl rfl⟩) ?_|refine zu (.inl ⟨rfl,zar 0 rfl h2 rfl rfl rfl⟩) ?_|refine zu (.inl ⟨rfl,zey rfl rfl rfl⟩) ?_|refine zu (.inl ⟨rfl,zI hty rfl rfl⟩) ?_|refine zu (.inl ⟨rfl,zm hty rfl rfl rfl (by assumption) rfl⟩) ?_|refine zS ⟨by kernel_rfl,?_⟩|refine WL_p hty rfl rfl ?_|refine zh ?_|refine zi ?_|refine za ?_|refine zf ?_|refine zxg ?_|refine zd rfl ?_)
  refine⟨hlt,trivial,(zfY ⟨zz rfl rfl,⟨_,rfl,zO ?_ rfl⟩,⟨_,rfl,zO ?_ rfl⟩,trivial⟩ ⟨zw rfl rfl,trivial⟩)⟩
  ·rw[hnx];rfl
  ·exact congrArg (AV.int .i64) ((zy (by omega) (by omega)).trans (by omega))
 ·obtain rfl:j=b.sorts.length:=by rw[zQ]at hc;omega
  rw[List.take_length]
  repeat'(first|refine WL_p hty rfl rfl ?_|refine zh ?_|refine zi ?_|refine za ?_|refine zf ?_|refine zbZ rfl ?_|refine zl ?_)
  refine zW b.cons.length (fun _=>True) (fun j=>⟨envOf [(1,.ptr 1 0),(3,.int .i64 (gI (gmx (za5 b.sorts)) (gmx (zbt (b.cons.take j))))),(5,.int .i64 (j:Nat))],bkOf [(1,.box (cB b))]⟩) (zfY ⟨zz rfl rfl,⟨_,rfl,zO ?_ rfl⟩,zz rfl rfl,trivial⟩ ⟨zw rfl rfl,trivial⟩) trivial ?_
  ·exact congrArg (AV.int .i64) (zsG (zpv _)).symm
  intro j hj _
  repeat'(first|refine WL_p hty rfl rfl ?_|refine zi ?_|refine za ?_)
  refine zj rfl rfl rfl rfl (fun hc=>?_) (fun hc=>?_)
  ·have hlt:j <b.cons.length:=by rw[zZ]at hc;omega
   obtain⟨c,hcc,hmem⟩:=zA hlt
   have rc:=zby hcc
   have hcs:=zaB hmem
   unfold Cn.size at hcs
   have h1:=zji c.args (by omega)
   have h2:=zd1 c.dec (by omega)
   have h3:=zc4 c.idx (by omega)
   have hnx:gmx (zbt (b.cons.take (j+1)))=gI (gmx (zbt (b.cons.take j))) (gI (gmx (zaN c.args)) (gI (gmx [c.dec]) (gmx c.idx))):=by
    unfold zbt
    rw[zem hcc,show zr0 c=[c.dec]++(c.idx++zaN c.args)from rfl,zb7,zb7, ←zfB (gmx [c.dec]),zqO (gI (gmx [c.dec]) (gmx c.idx))]
   repeat'(first|(refine zD (id:=9) zB8 rfl (by kernel_rfl) ?_)|refine zu (.inl ⟨rfl,zar 0 rfl h1 rfl rfl rfl⟩) ?_|refine zu (.inl ⟨rfl,zar 0 rfl h2 rfl rfl rfl⟩) ?_|refine zu (.inl ⟨rfl,zar 0 rfl h3 rfl rfl rfl⟩) ?_|refine zu (.inl ⟨rfl,zey rfl rfl rfl⟩) ?_|refine zu (.inl ⟨rfl,zI hty rfl rfl⟩) ?_|refine zu (.inl ⟨rfl,zm hty rfl rfl rfl (by assumption) rfl⟩) ?_|refine zS ⟨by kernel_rfl,?_⟩|refine WL_p hty rfl rfl ?_|refine zh ?_|refine zi ?_|refine za ?_|refine zf ?_|refine zxg ?_|refine zd rfl ?_)
   refine⟨hlt,trivial,(zfY ⟨zz rfl rfl,⟨_,rfl,zO ?_ rfl⟩,⟨_,rfl,zO ?_ rfl⟩,trivial⟩ ⟨zw rfl rfl,trivial⟩)⟩
   ·rw[hnx, ←zfB];rfl
   ·exact congrArg (AV.int .i64) ((zy (by omega) (by omega)).trans (by omega))
  ·obtain rfl:j=b.cons.length:=by rw[zZ]at hc;omega
   rw[List.take_length]
   repeat'(first|refine WL_p hty rfl rfl ?_|refine zh ?_|refine zi ?_|refine za ?_|refine zbZ rfl ?_|refine zl ?_|refine zg ?_)
   exact zaQ rfl rfl
end Go.Proofs.YtokfbblhjpfjkaaGreat
namespace Go.Proofs.YtokfbblhjpfjkaaGreat
open Go.Aw Go.RowKit
def zAS:List (Nat×List Nat):=[(0,[]),(1,[0]),(2,[0,1]),(3,[0,1,2]),(4,[0,1]),(5,[0,1,4]),(6,[0,1,2,3,4,5]),(7,[0,1,2,3,4,5,6]),(8,[0,1,2,3,4,5,6,7]),(9,[0,1,2,3,4,5,6,7,8]),(10,[0,1,2,3,4,5,6,7,8,9]),(11,[0,1,2,3,4,5,6,7,8,9,10]),(12,[0,1,2,3,4,5,6,7,8]),(13,[0,1,2,3,4,5,6,7,8,12]),(14,[0,1,2,3,4,5,6,7,8]),(15,[0,1,2,3,4,5,6,7,8,14]),(16,[0,1,2,3,4,5,6,7,8,9,10,11,14,15]),(17,[0,1,2,3,4,5,6,7,8,9,10,11,12,13,14,15,16]),(18,[0,1,2,3,4,5,6,7,8,9,10,11,12,13,14,15,16,17]),(19,[0,1,2,3,4,5,6,7,8,9,10,11,12,13,14,15,16,17,18]),(20,[0,1,2,3,4,5,6,7,8,9,10,11,12,13,14,15,16,17,18,19])]
def zB6:List (Nat×List Nat):=[(0,[]),(1,[]),(2,[0,1]),(3,[0,1,2]),(4,[0,1,2,3]),(5,[0,1,2,3,4]),(6,[0,1,2,3,4,5]),(7,[0,1,2,3,4,5,6]),(8,[0,1,2,3,4,5,6]),(9,[0,1,2,3,4,5,6,7,8]),(10,[0,1,2,3,4,5,6,7,8,9]),(11,[0,1,2,3,4,5,6,7,8,9,10]),(12,[0,1,2,3,4,5,6]),(13,[0,1,2,3,4,5,6]),(14,[0,1,2,3,4,5,6,12,13]),(15,[0,1,2,3,4,5,6,12,13,14]),(16,[0,1,2,3,4,5,6,12,13,14,15]),(17,[0,1,2,3,4,5,6,7,8,9,10,11,12,13,14,15,16]),(18,[0,1,2,3,4,5,6,7,8,9,10,11,12,13,14,15,16,17])]
def zze:List (Nat×List Nat):=[(0,[]),(1,[]),(2,[0,1]),(3,[0,1,2]),(4,[]),(5,[]),(6,[5]),(7,[0,1,2,3,4,5,6]),(8,[0,1,2,3,4,5,6,7]),(9,[0,1,2,3,4,5,6,7,8]),(10,[0,1,2,3,4,5,6,7,8,9]),(11,[0,1,2,3,4,5,6,7,8,9,10]),(12,[0,1,2,3,4,5,6,7,8,9,10,11]),(13,[0,1,2,3,4,5,6,7,8,9,10,11,12]),(14,[0,1,2,3,4,5,6,7,8,9,10,11,12]),(15,[0,1,2,3,4,5,6,7,8,9,10,11,12,13,14]),(16,[0,1,2,3,4,5,6,7,8,9,10,11,12,13,14,15]),(17,[0,1,2,3,4,5,6,7,8,9,10,11,12,13,14,15,16]),(18,[0,1,2,3,4,5,6,7,8,9,10,11,12]),(19,[0,1,2,3,4,5,6,7,8,9,10,11,12]),(20,[0,1,2,3,4,5,6,7,8,9,10,11,12,18,19]),(21,[0,1,2,3,4,5,6,7,8,9,10,11,12,18,19,20]),(22,[0,1,2,3,4,5,6,7,8,9,10,11,12,18,19,20,21]),(23,[0,1,2,3,4,5,6,7,8,9,10,11,12,13,14,15,16,17,18,19,20,21,22]),(24,[0,1,2,3,4,5,6,7,8,9,10,11,12,13,14,15,16,17,18,19,20,21,22,23]),(25,[0,1,2,3,4,5,6,7,8,9,10,11,12,13,14,15,16,17,18,19,20,21,22,23,24]),(26,[0,1,2,3,4,5,6,7,8,9,10,11,12,13,14,15,16,17,18,19,20,21,22,23,24,25])]
attribute [local irreducible] WL AC WD WE MStep OkOp
theorem zru(n lo hi:Int):FC Tryz.prog 82 [.int .i64 n,.int .i64 lo,.int .i64 hi] (.bool (inR n lo hi)):=by
 refine zo hty Tryz.func82 rfl rfl rfl fun w0=>?_
 repeat'(first|refine WL_p hty rfl rfl ?_|refine zh ?_|refine zi ?_|refine za ?_|refine zg ?_|refine zx rfl rfl ?_|refine zq rfl rfl rfl ?_|refine zb rfl ?_|refine zj rfl rfl rfl rfl (fun _=>?_) (fun _=>?_))
 all_goals(simp_all [inR] <;>(try intro) <;>omega)
theorem ztF(t:Tm)(h:t.size≤1048576)(f:Bool):FC Tryz.prog 22 [aT t,.agg [.int .i64 0,.int .i64 0,.lst 3 [] f]] (.bool (decide (t=zT))):=by
 have:=(zcZ t zT h).args (xs:=[aT t,.agg [.int .i64 0,.int .i64 0,.lst 3 [] f]]) (.cons (.refl _) (.cons (.agg (.cons (.refl _) (.cons (.refl _) (.cons (.nilF _ _ _) .nil)))) .nil))
 exact this
theorem znI(t:Tm)(h:t.size≤1048576):FC Tryz.prog 84 [aT t] (.bool (decide (t=zT))):=by
 refine zo hty Tryz.func84 rfl rfl rfl fun w0=>?_
 repeat'(first|refine zv 0 rfl (ztF t h true) rfl rfl rfl ?_|refine WL_p hty rfl rfl ?_|refine zh ?_|refine zi ?_|refine za ?_|refine zg ?_|refine zb rfl ?_)
 rfl
theorem zsr(b:Bl)(h:b.size≤1048576)(f g:Bool):FC Tryz.prog 54 [aB b,.agg [.lst 6 [] f,.lst 6 [] g,.int .i64 0]] (.bool (decide (b=zB))):=by
 have:=(ziy b zB h).args (xs:=[aB b,.agg [.lst 6 [] f,.lst 6 [] g,.int .i64 0]]) (.cons (.refl _) (.cons (.agg (.cons (.nilF _ _ _) (.cons (.nilF _ _ _) (.cons (.refl _) .nil)))) .nil))
 exact this
def zdn(e:En)(i:Int)(first:Bool):Bool:=zcj e i&&(decide (e.kind <3)||(!first||zb4 e.block e.base))
set_option maxHeartbeats 16000000 in
theorem zkn(e:En)(i:Int)(first:Bool)(hs:e.size≤1048576)(hi:0≤i):FC Tryz.prog 53 [aE e,.int .i64 i,.bool first] (.bool (zdn e i first)):=by
 have hs':e.size=e.typ.size+e.body.size+e.block.size:=rfl
 have h1:=zgz e.typ 0 i (by omega)
 have h2:=zgz e.body 0 i (by omega)
 have h3:=znI e.body (by omega)
 have h4:=zsr e.block (by omega) true true
 have h5:=zny e.block e.base (by omega)
 have h6:=zoT e.block (by omega)
 have h7:=zna e.block (by omega)
 have h8:=zru e.kind 1 6
 have f3:=zgP e.block e.base e.which (by omega)
 have f4:=zgl e.block e.base e.which (by omega)
 have f5:=zd9 e.block e.base e.which (by omega)
 have f6:=zew e.block e.base e.which (by omega)
 have hcn:=zhQ e.block (by omega)
 have hre:zcj e i=(zcY e.typ 0 i&&(if e.kind=1 then decide (e.base=0)&&(decide (e.which=0)&&(decide (e.block=zB)&&decide (e.body=zT)))
  else if e.kind=2 then decide (e.base=0)&&(decide (e.which=0)&&(decide (e.block=zB)&&zcY e.body 0 i))
  else if e.kind=3∨e.kind=4∨e.kind=5∨e.kind=6 then decide (e.body=zT)&&(decide (0≤e.base)&&decide (zce e=i))else false)):=rfl
 by_cases hk:inR e.kind 1 6=true
 case neg=>
  have hk':=Bool.eq_false_iff.2 hk
  rw[hk']at h8
  have hz:zdn e i first=false:=by
   unfold zdn
   rw[hre]
   rw[zeV]at hk'
   rw[if_neg (by omega),if_neg (by omega),if_neg (by omega)];simp
  rw[hz]
  refine zo hty Tryz.func53 rfl rfl rfl fun w0=>?_
  repeat'(first|refine zv 0 rfl h8 rfl rfl rfl ?_|refine WL_p hty rfl rfl ?_|refine zh ?_|refine zi ?_|refine za ?_|refine zd rfl ?_|refine zg ?_|refine zot rfl rfl rfl ?_|refine zb rfl ?_)
  rfl
 rw[hk]at h8
 rw[zec]at hk
 by_cases k3:e.kind <3
 ·have hen:zdn e i first=zcj e i:=by unfold zdn;rw[decide_eq_true k3];simp
  rw[hen,hre]
  by_cases k1:e.kind=1
  ·have k2: ¬e.kind=2:=by omega
   rw[if_pos k1]
   refine zo hty Tryz.func53 rfl rfl rfl fun w0=>?_
   repeat'(first|exact absurd (by assumption) k2|exact absurd k2 ‹_›|exact absurd k1 ‹_›|refine zv 0 rfl h8 rfl rfl rfl ?_|refine zL rfl h1 rfl (fun _=>?_) (fun _=>?_)|refine zL rfl h3 rfl (fun _=>?_) (fun _=>?_)|refine zL rfl h4 rfl (fun _=>?_) (fun _=>?_)|refine WL_p hty rfl rfl ?_|refine zh ?_|refine zi ?_|refine za ?_|refine zxg ?_|refine zd rfl ?_|refine zbZ rfl ?_|refine zg ?_|refine zx rfl rfl ?_|refine zq rfl rfl rfl ?_|refine zot rfl rfl rfl ?_|refine zb rfl ?_|refine zj rfl rfl rfl rfl (fun _=>?_) (fun _=>?_))
   all_goals simp[*]
  ·have k2:e.kind=2:=by omega
   rw[if_neg k1,if_pos k2]
   refine zo hty Tryz.func53 rfl rfl rfl fun w0=>?_
   repeat'(first|exact absurd (by assumption) k1|exact absurd k2 ‹_›|refine zv 0 rfl h8 rfl rfl rfl ?_|refine zL rfl h1 rfl (fun _=>?_) (fun _=>?_)|refine zL rfl h2 rfl (fun _=>?_) (fun _=>?_)|refine zL rfl h4 rfl (fun _=>?_) (fun _=>?_)|refine WL_p hty rfl rfl ?_|refine zh ?_|refine zi ?_|refine za ?_|refine zxg ?_|refine zd rfl ?_|refine zbZ rfl ?_|refine zg ?_|refine zx rfl rfl ?_|refine zq rfl rfl rfl ?_|refine zot rfl rfl rfl ?_|refine zr rfl rfl rfl ?_|refine zb rfl ?_|refine zj rfl rfl rfl rfl (fun _=>?_) (fun _=>?_))
   all_goals simp[*]
 ·have k1: ¬e.kind=1:=by omega
  have k2: ¬e.kind=2:=by omega
  have hen:zdn e i first=((zcY e.typ 0 i&&decide (e.body=zT))&&((!first||(decide (zbz e.block e.base=0)&&decide (zkb e.block <e.base+(countN e.block:Nat))))&&decide (zce e=i))):=by
   unfold zdn zb4
   rw[hre,if_neg k1,if_neg k2,if_pos (by omega),decide_eq_false k3]
   by_cases hn:zce e=i
   ·have:=(zif hn hi).1
    rw[decide_eq_true hn,decide_eq_true this];simp[Bool.and_assoc]
   ·rw[decide_eq_false hn];simp
  rw[hen]
  have hnum:zce e=if e.kind=3 then zca e.block e.base e.which else if e.kind=4 then zaL e.block e.base e.which else if e.kind=5 then zaO e.block e.base e.which else zaz e.block e.base e.which:=rfl
  have hfin: ∀ w0:B0,∀ s:AS,True:=fun _ _=>trivial
  by_cases hpo:zbz e.block e.base=0
  ·have hba:=ziq hpo
   have hw:IntKind.i64.wrap (e.base+(countN e.block:Nat))=e.base+(countN e.block:Nat):=zy (by omega) (by omega)
   cases first
   all_goals
    refine zo hty Tryz.func53 rfl rfl rfl fun w0=>?_
    repeat'(first|exact absurd (by assumption) k1|exact absurd (by assumption) k2|exact absurd k2 ‹_›|exact absurd hpo ‹_›|(exfalso;omega)|refine zv 0 rfl h8 rfl rfl rfl ?_|refine zL rfl h1 rfl (fun _=>?_) (fun _=>?_)|refine zL rfl h3 rfl (fun _=>?_) (fun _=>?_)|(refine zbF (id:=7) ?_;refine zab (zfY (l:=[(1,_),(2,_),(3,_)]) (bl:=[(3,_)]) ⟨zz rfl rfl,zz rfl rfl,zz rfl rfl,trivial⟩ ⟨zw rfl rfl,trivial⟩) ?_;refine zD (id:=7) zAS rfl (by kernel_rfl) ?_)|refine zad 0 rfl h5 rfl rfl rfl ?_|refine zad 0 rfl h6 rfl rfl rfl ?_|refine zad 0 rfl h7 rfl rfl rfl ?_|refine zv 0 rfl f3 rfl rfl rfl ?_|refine zv 0 rfl f4 rfl rfl rfl ?_|refine zv 0 rfl f5 rfl rfl rfl ?_|refine zv 0 rfl f6 rfl rfl rfl ?_|refine zu (.inl ⟨rfl,zI hty rfl rfl⟩) ?_|refine zaG rfl rfl ?_|refine zau rfl rfl rfl ?_|refine zaw rfl rfl rfl ?_|refine zS ⟨by kernel_rfl,?_⟩|refine WL_p hty rfl rfl ?_|refine zh ?_|refine zi ?_|refine za ?_|refine zf ?_|refine zxg ?_|refine zd rfl ?_|refine zbZ rfl ?_|refine zg ?_|refine zx rfl rfl ?_|refine zq rfl rfl rfl ?_|refine zb rfl ?_|refine zj rfl rfl rfl rfl (fun _=>?_) (fun _=>?_)|refine zaC rfl rfl rfl rfl (fun _=>?_) (fun _=>?_))
    all_goals
     rw[hnum]
     try rw[hw]at*
     simp[*]
     try omega
  ·cases first
   all_goals
    refine zo hty Tryz.func53 rfl rfl rfl fun w0=>?_
    repeat'(first|exact absurd (by assumption) k1|exact absurd (by assumption) k2|exact absurd k2 ‹_›|(exfalso;omega)|refine zv 0 rfl h8 rfl rfl rfl ?_|refine zL rfl h1 rfl (fun _=>?_) (fun _=>?_)|refine zL rfl h3 rfl (fun _=>?_) (fun _=>?_)|(refine zbF (id:=7) ?_;refine zab (zfY (l:=[(1,_),(2,_),(3,_)]) (bl:=[(3,_)]) ⟨zz rfl rfl,zz rfl rfl,zz rfl rfl,trivial⟩ ⟨zw rfl rfl,trivial⟩) ?_;refine zD (id:=7) zAS rfl (by kernel_rfl) ?_)|refine zad 0 rfl h5 rfl rfl rfl ?_|refine zv 0 rfl f3 rfl rfl rfl ?_|refine zv 0 rfl f4 rfl rfl rfl ?_|refine zv 0 rfl f5 rfl rfl rfl ?_|refine zv 0 rfl f6 rfl rfl rfl ?_|refine zu (.inl ⟨rfl,zI hty rfl rfl⟩) ?_|refine zaG rfl rfl ?_|refine zau rfl rfl rfl ?_|refine zav rfl rfl rfl ?_|refine zaw rfl rfl rfl ?_|refine zS ⟨by kernel_rfl,?_⟩|refine WL_p hty rfl rfl ?_|refine zh ?_|refine zi ?_|refine za ?_|refine zf ?_|refine zxg ?_|refine zd rfl ?_|refine zbZ rfl ?_|refine zg ?_|refine zx rfl rfl ?_|refine zq rfl rfl rfl ?_|refine zb rfl ?_|refine zj rfl rfl rfl rfl (fun _=>?_) (fun _=>?_)|refine zaC rfl rfl rfl rfl (fun _=>?_) (fun _=>?_))
    all_goals
     rw[hnum]
     simp[*]
     try omega
theorem zqs{α:Type}{p:α→Bool}: ∀ {l:List α},0≤idxF p l→ ∀ a,l[(idxF p l).toNat]? =some a→p a=true
 |[],h,_,_=>by simp[idxF]at h
 |x::l,h,a,ha=>by
  simp only[idxF]at h ha
  by_cases hp:p x=true
  ·rw[if_pos hp]at ha
   obtain rfl:=Option.some.inj (show some x=some a from ha)
   exact hp
  ·rw[if_neg hp]at h ha
   by_cases h2:idxF p l <0
   ·rw[if_pos h2]at h;omega
   ·rw[if_neg h2,show(idxF p l+1).toNat=(idxF p l).toNat+1 by omega,List.getElem?_cons_succ]at ha
    exact zqs (by omega) a ha
def zd8(e f:En):Bool:=decide (2 <f.kind)&&decide (f.base=e.base)
def zcy(l:List En)(i:Nat)(e:En):Int:=if 2 <e.kind then idxF (zd8 e) (l.take i)else -1
set_option maxHeartbeats 4000000 in
theorem zpn(l:List En)(i:Nat)(e:En)(hl:zbJ l≤1048576)(he:l[i]? =some e):FC Tryz.prog 52 [sE l,.int .i64 (i:Nat)] (.int .i64 (zcy l i e)):=by
 have hlen:=zbU l
 have hil:=(List.getElem?_eq_some_iff.1 he).1
 have ri:=zeM he
 by_cases hk:e.kind>2
 case neg=>
  have hz:zcy l i e= -1:=by unfold zcy;rw[if_neg hk]
  rw[hz]
  refine zo hty Tryz.func52 rfl rfl rfl fun w0=>?_
  repeat'(first|refine WL_p hty rfl rfl ?_|refine zh ?_|refine zi ?_|refine za ?_|refine zf ?_)
  refine zW 0 (fun _=>True) (fun j=>⟨envOf [(0,sE l),(1,.int .i64 (i:Nat)),(5,.int .i64 (j:Nat))],bkOf []⟩) (zfY ⟨zz rfl rfl,zz rfl rfl,zz rfl rfl,trivial⟩ trivial) trivial ?_
  intro j hj _
  obtain rfl:j=0:=by omega
  repeat'(first|exact absurd (by assumption) hk|refine WL_m rfl (zm (i:=i) hty rfl rfl rfl ri rfl) ?_|refine WL_p hty rfl rfl ?_|refine zh ?_|refine zi ?_|refine za ?_|refine zbZ rfl ?_|refine zl ?_|refine zg ?_|refine zx rfl rfl ?_|refine zq rfl rfl rfl ?_|refine zj rfl rfl rfl rfl (fun _=>?_) (fun _=>?_))
  all_goals exact zaQ rfl rfl
 have hz:zcy l i e=idxF (zd8 e) (l.take i):=by unfold zcy;rw[if_pos hk]
 rw[hz]
 refine zo hty Tryz.func52 rfl rfl rfl fun w0=>?_
 repeat'(first|refine WL_p hty rfl rfl ?_|refine zh ?_|refine zi ?_|refine za ?_|refine zf ?_)
 refine zW i (fun j=>((l.take i).take j).any (zd8 e)=false) (fun j=>⟨envOf [(0,sE l),(1,.int .i64 (i:Nat)),(5,.int .i64 (j:Nat))],bkOf []⟩) (zfY ⟨zz rfl rfl,zz rfl rfl,zz rfl rfl,trivial⟩ trivial) rfl ?_
 intro j hj hI
 repeat'(first|refine WL_p hty rfl rfl ?_|refine zi ?_|refine za ?_)
 refine zj rfl rfl rfl rfl (fun hc=>?_) (fun hc=>?_)
 ·have hlt:j <i:=by omega
  obtain⟨f,hf,_⟩:=zA (show j <l.length by omega)
  have hf2:(l.take i)[j]? =some f:=by rw[List.getElem?_take,if_pos hlt];exact hf
  have rf:=zeM hf
  have hat:=zaA (p:=zd8 e) hf2
  repeat'(first|exact absurd hk ‹_›|refine WL_m rfl (zm (i:=i) hty rfl rfl rfl ri rfl) ?_|(refine zD (id:=4) zB6 rfl (by kernel_rfl) ?_)|refine zbc rfl (zm (i:=i) hty rfl rfl rfl ri rfl) ?_|refine zbc rfl (zm (i:=j) hty rfl rfl rfl rf rfl) ?_|refine zu (.inl ⟨rfl,zI hty rfl rfl⟩) ?_|refine zaG rfl rfl ?_|refine zau rfl rfl rfl ?_|refine zS ⟨by kernel_rfl,?_⟩|refine WL_p hty rfl rfl ?_|refine zh ?_|refine zi ?_|refine za ?_|refine zf ?_|refine zxg ?_|refine zd rfl ?_|refine zbZ rfl ?_|refine zg ?_|refine zx rfl rfl ?_|refine zj rfl rfl rfl rfl (fun _=>?_) (fun _=>?_)|refine zaC rfl rfl rfl rfl (fun _=>?_) (fun _=>?_))
  all_goals first
   |(refine zaQ rfl ?_
     exact(zdi (p:=zd8 e) (by simp[zd8];omega) hI hf2).symm)
   |(refine⟨hlt,?_,(zfY ⟨zz rfl rfl,zz rfl rfl,⟨_,rfl,zO ?_ rfl⟩,trivial⟩ trivial)⟩
     ·rw[hat,hI];simp[zd8];omega
     ·exact congrArg (AV.int .i64) ((zy (by omega) (by omega)).trans (by omega)))
 ·obtain rfl:j=i:=by omega
  rw[List.take_of_length_le (l:=l.take j) (by rw[List.length_take];omega)]at hI
  repeat'(first|refine WL_p hty rfl rfl ?_|refine zh ?_|refine zi ?_|refine za ?_|refine zbZ rfl ?_|refine zl ?_|refine zg ?_|refine zq rfl rfl rfl ?_)
  refine zaQ rfl ?_
  exact(zcG hI).symm
theorem zpH{l:List En}{x:Int}(h: ∀ f,f∈l→ ¬(2 <f.kind∧f.base=x)):seenE l x=none:=by
 have: ∀ (l:List En) (g:Int→Option Bl),g x=none→(∀ f,f∈l→ ¬(2 <f.kind∧f.base=x))→l.foldl zfm g x=none:=by
  intro l
  induction l with
  |nil=>intro g hg _;exact hg
  |cons a l ih=>
   intro g hg h
   refine ih _ ?_ (fun f hf=>h f (List.mem_cons_of_mem _ hf))
   unfold zfm
   split
   ·exact hg
   ·have:=h a List.mem_cons_self
    show(if x=a.base then some a.block else g x)=none
    rw[if_neg (fun q=>this ⟨by omega,q.symm⟩)];exact hg
 exact this l _ rfl h
def Agree(l:List En):Prop:= ∀ f,f∈l→2 <f.kind→seenE l f.base=some f.block
theorem Agree.next{l:List En}{j:Nat}{e:En}(h:Agree (l.take j))(he:l[j]? =some e)(hf:2 <e.kind→ ∀ f,f∈l.take j→2 <f.kind→f.base=e.base→f.block=e.block):Agree (l.take (j+1)):=by
 intro f hm hk
 rw[zjG he]
 rw[List.take_add_one,he,Option.toList_some]at hm
 unfold zfm
 rcases List.mem_append.1 hm with q|q
 ·split
  ·exact h f q hk
  ·rename_i hek
   show(if f.base=e.base then some e.block else seenE (l.take j) f.base)=some f.block
   split
   ·rename_i hb;rw[hf (by omega) f q hk hb]
   ·exact h f q hk
 ·rw[List.mem_singleton.1 q]at hk⊢
  rw[if_neg (by omega)]
  show(if e.base=e.base then some e.block else _)=some e.block
  rw[if_pos rfl]
set_option maxHeartbeats 8000000 in
theorem zrl(l:List En)(hl:zbJ l≤1048576):FC Tryz.prog 24 [sE l] (.int .i64 (zCC l)):=by
 have hlen:=zbU l
 by_cases hb:200 <l.length
 ·have he:zCC l=13:=by unfold zCC;rw[if_pos hb]
  have hb':((rsE l).length:Int)>200:=by rw[zaW];omega
  rw[he]
  refine zo hty Tryz.func24 rfl rfl rfl fun w0=>?_
  repeat'(first|exact absurd hb' ‹_›|refine WL_p hty rfl rfl ?_|refine zh ?_|refine zi ?_|refine za ?_|refine zd rfl ?_|refine zg ?_|refine zj rfl rfl rfl rfl (fun _=>?_) (fun _=>?_))
  all_goals exact zaQ rfl rfl
 have hb': ¬((rsE l).length:Int)>200:=by rw[zaW];omega
 have he:zCC l=if zcQ (fun _=>none) 0 l=true then 0 else 12:=by unfold zCC;rw[if_neg hb]
 refine zo hty Tryz.func24 rfl rfl rfl fun w0=>?_
 repeat'(first|exact absurd (by assumption) hb'|refine WL_p hty rfl rfl ?_|refine zh ?_|refine zi ?_|refine za ?_|refine zf ?_|refine zxg ?_|refine zbZ rfl ?_|refine zj rfl rfl rfl rfl (fun _=>?_) (fun _=>?_))
 refine zW l.length (fun i=>zcQ (fun _=>none) 0 (l.take i)=true∧Agree (l.take i)) (fun i=>⟨envOf [(0,sE l),(3,.int .i64 (i:Nat))],bkOf []⟩)
  (zfY ⟨zz rfl rfl,zz rfl rfl,trivial⟩ trivial) ⟨rfl,fun f hf=>by simp at hf⟩ ?_
 intro i hi hI
 obtain⟨hrow,hag⟩:=hI
 repeat'(first|refine WL_p hty rfl rfl ?_|refine zi ?_|refine za ?_)
 refine zj rfl rfl rfl rfl (fun hc=>?_) (fun hc=>?_)
 ·have hlt:i <l.length:=by rw[zaW]at hc;omega
  obtain⟨e,he',hmem⟩:=zA hlt
  have re:=zeM he'
  have hes:=zbn hmem
  have hes':e.size=e.typ.size+e.body.size+e.block.size:=rfl
  have hel:=zpn l i e hl he'
  have hnx:=zkj he'
  rw[hrow,Bool.true_and]at hnx
  have hbad:zbG (seenE (l.take i)) e (i:Nat)=false→(12:Int)=zCC l:=fun q=>by rw[he,if_neg (by rw[zk2 he' q];exact Bool.false_ne_true)]
  have hinc:AV.int .i64 (IntKind.i64.wrap ((i:Int)+1))=AV.int .i64 ((i+1:Nat):Int):=congrArg (AV.int .i64) ((zy (by omega) (by omega)).trans (by omega))
  by_cases hel0:zcy l i e <0
  ·have hen:=zkn e (i:Nat) true (by omega) (by omega)
   have hno:2 <e.kind→ ∀ f,f∈l.take i→ ¬(2 <f.kind∧f.base=e.base):=fun hk f hf q=>by
    unfold zcy at hel0
    rw[if_pos hk]at hel0
    have:(l.take i).any (zd8 e)=true:=List.any_eq_true.2 ⟨f,hf,by simp[zd8,q.1,q.2]⟩
    have:=zc6.2 this
    omega
   have hee:zdn e (i:Nat) true=zbG (seenE (l.take i)) e (i:Nat):=by
    unfold zdn zbG
    by_cases hk:e.kind <3
    ·rw[decide_eq_true hk];simp
    ·have:zfH (seenE (l.take i)) e=zb4 e.block e.base:=by unfold zfH;rw[zpH (hno (by omega))]
     rw[this];simp
   rw[hee]at hen
   generalize zbG (seenE (l.take i)) e (i:Nat)=r at hen hnx hbad
   generalize zcy l i e=k at hel hel0
   cases r
   ·repeat'(first|exact absurd hel0 ‹_›|refine zv 0 rfl hel rfl rfl rfl ?_|(refine zbF (id:=7) ?_;refine zab (zfY (l:=[(0,_),(3,_),(4,_)]) (bl:=[]) ⟨zz rfl rfl,zz rfl rfl,zz rfl rfl,trivial⟩ trivial) ?_;refine zD (id:=7) zze rfl (by kernel_rfl) ?_)|refine zad 0 rfl hen rfl rfl rfl ?_|refine zu (.inl ⟨rfl,zI hty rfl rfl⟩) ?_|refine zu (.inl ⟨rfl,zm hty rfl rfl rfl (by assumption) rfl⟩) ?_|refine zav rfl rfl rfl ?_|refine zaw rfl rfl rfl ?_|refine zS ⟨by kernel_rfl,?_⟩|refine WL_p hty rfl rfl ?_|refine zh ?_|refine zi ?_|refine za ?_|refine zf ?_|refine zxg ?_|refine zd rfl ?_|refine zg ?_|refine zaC rfl rfl rfl rfl (fun _=>?_) (fun _=>?_))
    exact zaQ rfl (hbad rfl)
   ·have n0: ¬k≥0:=by omega
    repeat'(first|exact absurd hel0 ‹_›|exact absurd (by assumption) n0|refine zv 0 rfl hel rfl rfl rfl ?_|(refine zbF (id:=7) ?_;refine zab (zfY (l:=[(0,_),(3,_),(4,_)]) (bl:=[]) ⟨zz rfl rfl,zz rfl rfl,zz rfl rfl,trivial⟩ trivial) ?_;refine zD (id:=7) zze rfl (by kernel_rfl) ?_)|refine zad 0 rfl hen rfl rfl rfl ?_|refine zu (.inl ⟨rfl,zI hty rfl rfl⟩) ?_|refine zu (.inl ⟨rfl,zm hty rfl rfl rfl (by assumption) rfl⟩) ?_|refine zaG rfl rfl ?_|refine zau rfl rfl rfl ?_|refine zS ⟨by kernel_rfl,?_⟩|refine WL_p hty rfl rfl ?_|refine zh ?_|refine zi ?_|refine za ?_|refine zf ?_|refine zxg ?_|refine zd rfl ?_|refine zbZ rfl ?_|refine zaC rfl rfl rfl rfl (fun _=>?_) (fun _=>?_))
    refine⟨hlt,⟨hnx,hag.next he' (fun hk f hf h1 h2=>absurd ⟨h1,h2⟩ (hno hk f hf))⟩,(zfY ⟨zz rfl rfl,⟨_,rfl,zO ?_ rfl⟩,trivial⟩ trivial)⟩
    exact hinc
  ·have hen:=zkn e (i:Nat) false (by omega) (by omega)
   have hk:2 <e.kind:=by
    cases Classical.em (2 <e.kind)with
    |inl q=>exact q
    |inr q=>unfold zcy at hel0;rw[if_neg q]at hel0;omega
   have hei:zcy l i e=idxF (zd8 e) (l.take i):=by unfold zcy;rw[if_pos hk]
   have hel1:0≤zcy l i e:=by omega
   have hlt3:=zl5 (p:=zd8 e) (l:=l.take i) (by omega)
   rw[←hei]at hlt3
   obtain⟨f,hf,hfm⟩:=zA (show(zcy l i e).toNat <(l.take i).length by omega)
   have hfs:zd8 e f=true:=by
    have:=zqs (p:=zd8 e) (l:=l.take i) (by omega)
    rw[←hei]at this
    exact this f hf
   have hfl:l[(zcy l i e).toNat]? =some f:=by
    rw[List.length_take]at hlt3
    rwa[List.getElem?_take,if_pos (by omega)]at hf
   simp only[zd8,Bool.and_eq_true,decide_eq_true_eq]at hfs
   have hse:=hag f hfm hfs.1
   rw[hfs.2]at hse
   have rf:=zeM hfl
   have hfz:=zbn (List.mem_of_mem_take hfm)
   have hfz':f.size=f.typ.size+f.body.size+f.block.size:=rfl
   have hkb:=ziy f.block e.block (by omega)
   have hee:zbG (seenE (l.take i)) e (i:Nat)=(zdn e (i:Nat) false&&decide (f.block=e.block)):=by
    unfold zdn zbG zfH
    rw[hse,decide_eq_false (show ¬e.kind <3 by omega)];simp
   rw[hee]at hnx hbad
   generalize zdn e (i:Nat) false=r1 at hen hnx hbad
   have hall:decide (f.block=e.block)=true→ ∀ g,g∈l.take i→2 <g.kind→g.base=e.base→g.block=e.block:=fun q g hg h1 h2=>by
    have h3:=hag g hg h1
    rw[h2,hse]at h3
    rw[←Option.some.inj h3];exact of_decide_eq_true q
   generalize decide (f.block=e.block)=r2 at hkb hnx hbad hall
   generalize zcy l i e=k at hel hel0 hel1 rf
   cases r1
   ·repeat'(first|refine zv 0 rfl hel rfl rfl rfl ?_|exact absurd (by assumption) hel0|(refine zbF (id:=7) ?_;refine zab (zfY (l:=[(0,_),(3,_),(4,_)]) (bl:=[]) ⟨zz rfl rfl,zz rfl rfl,zz rfl rfl,trivial⟩ trivial) ?_;refine zD (id:=7) zze rfl (by kernel_rfl) ?_)|refine zad 0 rfl hen rfl rfl rfl ?_|refine zu (.inl ⟨rfl,zI hty rfl rfl⟩) ?_|refine zu (.inl ⟨rfl,zm hty rfl rfl rfl (by assumption) rfl⟩) ?_|refine zav rfl rfl rfl ?_|refine zaw rfl rfl rfl ?_|refine zS ⟨by kernel_rfl,?_⟩|refine WL_p hty rfl rfl ?_|refine zh ?_|refine zi ?_|refine za ?_|refine zf ?_|refine zxg ?_|refine zd rfl ?_|refine zg ?_|refine zaC rfl rfl rfl rfl (fun _=>?_) (fun _=>?_))
    exact zaQ rfl (hbad rfl)
   ·have n0:k≥0:=hel1
    cases r2
    all_goals
     repeat'(first|refine zv 0 rfl hel rfl rfl rfl ?_|exact absurd (by assumption) hel0|exact absurd n0 ‹_›|(refine zbF (id:=7) ?_;refine zab (zfY (l:=[(0,_),(3,_),(4,_)]) (bl:=[]) ⟨zz rfl rfl,zz rfl rfl,zz rfl rfl,trivial⟩ trivial) ?_;refine zD (id:=7) zze rfl (by kernel_rfl) ?_)|refine zad 0 rfl hen rfl rfl rfl ?_|refine zad 0 rfl hkb rfl rfl rfl ?_|refine zbc rfl (zaq hty rfl rfl rfl hel1 rf rfl) ?_|refine zbc rfl (zm (i:=i) hty rfl rfl rfl re rfl) ?_|refine zu (.inl ⟨rfl,zI hty rfl rfl⟩) ?_|refine zaG rfl rfl ?_|refine zS ⟨by kernel_rfl,?_⟩|refine WL_p hty rfl rfl ?_|refine zh ?_|refine zi ?_|refine za ?_|refine zf ?_|refine zxg ?_|refine zd rfl ?_|refine zbZ rfl ?_|refine zg ?_|refine zaC rfl rfl rfl rfl (fun _=>?_) (fun _=>?_))
    ·exact zaQ rfl (hbad rfl)
    ·refine⟨hlt,⟨hnx,hag.next he' (fun _=>hall rfl)⟩,(zfY ⟨zz rfl rfl,⟨_,rfl,zO ?_ rfl⟩,trivial⟩ trivial)⟩
     exact hinc
 ·obtain rfl:i=l.length:=by rw[zaW]at hc;omega
  rw[List.take_length]at hrow
  repeat'(first|refine WL_p hty rfl rfl ?_|refine zh ?_|refine zi ?_|refine za ?_|refine zbZ rfl ?_|refine zl ?_|refine zg ?_)
  refine zaQ rfl ?_
  rw[he,if_pos hrow]
end Go.Proofs.YtokfbblhjpfjkaaGreat
