/- A variable, an axiom's constant, on terms, made normal, is on these made normal. -/
import Derived.Test.YtokfbblhjpfjkaaGreatLNParts
import Derived.Test.YtokfbblhjpfjkaaGreatLFill
namespace Go.Proofs.YtokfbblhjpfjkaaGreat
set_option linter.unusedSimpArgs false
set_option linter.unusedVariables false
open Go.Aw Go.RowKit
def zzG:List (Nat×List Nat):=[(0,[]),(1,[]),(2,[]),(3,[1,2]),(4,[0,1,2,3]),(5,[0,1,2,3,4]),(6,[0,1,2,3,4,5]),(7,[0,1,2,3,4,5,6]),(8,[0,1,2,3,4,5,6,7])]
attribute [local irreducible] WL AC WD WE MStep OkOp
attribute [local irreducible] zfd zvN
theorem zCo(env:List En)(n:Int):zAh env (.mk 1 n []):=⟨rfl,.inl rfl⟩
theorem zCn{env:List En}{n:Nat}{e:En}(he:env[n]? =some e)(hk:e.kind=1):zAh env (.mk 3 (n:Int) []):=by
 refine⟨rfl,.inr ⟨rfl,fun x hx=>?_⟩⟩
 have h1:ofE env (.mk 3 (n:Int) [])=some e:=by
  unfold ofE
  rw[if_pos ⟨rfl,by show(0:Int)≤(n:Int);omega⟩]
  exact he
 rw[h1]at hx
 obtain rfl:=Option.some.inj hx
 exact hk
theorem zBc(f:Tm)(l:List Tm):(zaR f l).size=f.size+sizes l+l.length:=by
 induction l generalizing f with
 |nil=>simp[zaR,sizes]
 |cons a l ih=>
  show(zaR (.mk 6 0 [f,a]) l).size=_
  rw[ih]
  simp only[Tm.size,sizes,List.length_cons];omega
theorem zBK: ∀ (l:List Tm) (f:Tm),z8 (zaR f l)=0→ ∀ a,a∈l→z8 a=0:=by
 intro l
 generalize hn:l.length=n
 induction n generalizing l with
 |zero=>obtain rfl:=List.length_eq_zero_iff.1 hn;intro f _ a ha;cases ha
 |succ n ih=>
  intro f hc a ha
  have hne:l≠[]:=by intro q;subst q;cases hn
  obtain⟨l',x,rfl⟩: ∃ l' x,l=l'++[x]:=⟨l.dropLast,l.getLast hne,(List.dropLast_concat_getLast hne).symm⟩
  rw[zxQ]at hc
  have h0:z8 (zaR f l')=0:=zql (p:=[0]) hc (by simp[zaZ,zhz])
  have h1:z8 x=0:=zql (p:=[1]) hc (by simp[zaZ,zhz])
  rcases List.mem_append.1 ha with q|q
  ·exact ih l' (by simpa using hn) f h0 a q
  ·obtain rfl:=List.mem_singleton.1 q;exact h1
set_option maxHeartbeats 32000000 in
theorem zAw(env:List En)(head:Int)(l:List Tm)(fuel:Int)(h:zbJ env+sizes l≤400000):FC Tryz.prog 6 [sE env,.int .i64 head,sT l,.int .i64 fuel] (.bool true):=by
 have he:=znh env (by omega)
 have hv:=zde l (by omega)
 have hg:=zrl env (by omega)
 have hw:=zyT
 have hlk:=zuW env (by omega)
 have hll:=zM l
 have hrl:=zeb l
 by_cases hgo:envI env=0∧l.length≤8
 case neg=>
  refine zo hty Tryz.func6 rfl rfl rfl fun w0=>?_
  repeat'(first|(exfalso;omega)|refine zL rfl he rfl (fun _=>?_) (fun _=>?_)|refine zL rfl hv rfl (fun _=>?_) (fun _=>?_)|refine zv 0 rfl hg rfl rfl rfl ?_|refine WL_p hty rfl rfl ?_|refine zh ?_|refine zi ?_|refine za ?_|refine zf ?_|refine ze ?_|refine zd rfl ?_|refine zbZ rfl ?_|refine zl ?_|refine zg ?_|refine zx rfl rfl ?_|refine zq rfl rfl rfl ?_|refine zot rfl rfl rfl ?_|refine zr rfl rfl rfl ?_|refine WL_m rfl (zm hty rfl rfl rfl (by assumption) rfl) ?_|refine zb rfl ?_|refine zj rfl rfl rfl rfl (fun _=>?_) (fun _=>?_)|refine zk rfl (fun _=>?_) (fun _=>?_))
  all_goals first
   |rfl
   |(exfalso;omega)
 obtain⟨hE,hl8⟩:=hgo
 have hel:=ztU hE
 rw[hE]at hg hlk
 have f1:=zy9 fuel
 obtain⟨b1,b2⟩:=zzc fuel
 generalize fuelI fuel=F at f1 b1 b2
 obtain⟨_,k9,hk9,hke9⟩:=zyq head (m:=9) (by omega) (by omega)
 obtain⟨_,k50,hk50,hke50⟩:=zyq head (m:=50) (by omega) (by omega)
 have z9:(9:Int)≠0:=by decide
 have z50:(50:Int)≠0:=by decide
 have u9:IntKind.u64.wrap ((9:Nat):Int)=9:=by decide
 have u50:IntKind.u64.wrap ((50:Nat):Int)=50:=by decide
 have raw9:IntKind.i64.wrap ((IntKind.u64.wrap head).tmod 9)=(k9:Int):=by have:=hke9;unfold zyH at this;rwa[u9]at this
 have raw50:IntKind.i64.wrap ((IntKind.u64.wrap head).tmod 50)=(k50:Int):=by have:=hke50;unfold zyH at this;rwa[u50]at this
 have hrE:=zaW env
 have n0:0≤IntKind.i64.wrap ((IntKind.u64.wrap head).tmod 50):=by rw[raw50];omega
 obtain⟨e,re⟩: ∃ e:En,IntKind.i64.wrap ((IntKind.u64.wrap head).tmod 50) <((rsE env).length:Int)→env[k50]? =some e∧(rsE env)[(IntKind.i64.wrap ((IntKind.u64.wrap head).tmod 50)).toNat]? =some (cE e):=by
  by_cases hq:k50 <env.length
  ·obtain⟨e,he,_⟩:=zA hq
   exact⟨e,fun _=>⟨he,by rw[raw50];exact zeM he⟩⟩
  ·exact⟨⟨0,zT,zT,0,0,⟨[],[],0⟩⟩,fun q=>by rw[raw50]at q;omega⟩
 obtain⟨f,hfst,hfsz,hfC,hfV1,hfV2⟩: ∃ f:Tm,zAh env f∧f.size=1∧(IntKind.i64.wrap ((IntKind.u64.wrap head).tmod 50) <((rsE env).length:Int)→e.kind=1→f=.mk 3 (IntKind.i64.wrap ((IntKind.u64.wrap head).tmod 50)) [])∧
  (¬IntKind.i64.wrap ((IntKind.u64.wrap head).tmod 50) <((rsE env).length:Int)→f=.mk 1 (IntKind.i64.wrap ((IntKind.u64.wrap head).tmod 9)) [])∧(¬e.kind=1→f=.mk 1 (IntKind.i64.wrap ((IntKind.u64.wrap head).tmod 9)) []):=by
  by_cases q:IntKind.i64.wrap ((IntKind.u64.wrap head).tmod 50) <((rsE env).length:Int)∧e.kind=1
  ·exact⟨.mk 3 (IntKind.i64.wrap ((IntKind.u64.wrap head).tmod 50)) [],by rw[raw50];exact zCn (re q.1).1 q.2,rfl,fun _ _=>rfl,fun n=>absurd q.1 n,fun n=>absurd q.2 n⟩
  ·exact⟨.mk 1 (IntKind.i64.wrap ((IntKind.u64.wrap head).tmod 9)) [],zCo _ _,rfl,fun a b=>absurd ⟨a,b⟩ q,fun _=>rfl,fun _=>rfl⟩
 have hno: ∀ n a,Sp f n a→lookR env a=none:=fun n a q=>zBW hfst q
 have hsp:=zzd f l (by omega) (by omega)
 have hss:=zBc f l
 have hck:=zo2 (zaR f l) (by omega)
 have hA:=zxV hlk (zaR f l) F (by omega)
 have spC:IntKind.i64.wrap ((IntKind.u64.wrap head).tmod 50) <((rsE env).length:Int)→e.kind=1→FC Tryz.prog 28 [aT (.mk 3 (IntKind.i64.wrap ((IntKind.u64.wrap head).tmod 50)) []),sT l] (aT (zaR f l)):=fun a b=>by rw[←hfC a b];exact hsp
 have spV1: ¬IntKind.i64.wrap ((IntKind.u64.wrap head).tmod 50) <((rsE env).length:Int)→FC Tryz.prog 28 [aT (.mk 1 (IntKind.i64.wrap ((IntKind.u64.wrap head).tmod 9)) []),sT l] (aT (zaR f l)):=fun a=>by rw[←hfV1 a];exact hsp
 have spV2: ¬e.kind=1→FC Tryz.prog 28 [aT (.mk 1 (IntKind.i64.wrap ((IntKind.u64.wrap head).tmod 9)) []),sT l] (aT (zaR f l)):=fun a=>by rw[←hfV2 a];exact hsp
 by_cases hC:z8 (zaR f l)=0
 case neg=>
  refine zo hty Tryz.func6 rfl rfl rfl fun w0=>?_
  repeat'(first|(exfalso;omega)|exact absurd (by assumption) hC|exact absurd hC (by assumption)|refine zL rfl he rfl (fun _=>?_) (fun _=>?_)|refine zL rfl hv rfl (fun _=>?_) (fun _=>?_)|refine zv 0 rfl hg rfl rfl rfl ?_|refine zv 0 rfl f1 rfl rfl rfl ?_|refine WL_m rfl (zx2 rfl zyX zy0 rfl) ?_|refine WL_m rfl (zx2 rfl zyZ zy2 rfl) ?_|refine WL_m rfl (zyW rfl rfl z9 rfl) ?_|refine WL_m rfl (zyW rfl rfl z50 rfl) ?_|refine zv 0 rfl (ztY _) rfl rfl rfl ?_|refine zv 0 rfl (zx0 _) rfl rfl rfl ?_|refine WL_m rfl (zaq hty rfl rfl rfl n0 (re ‹_›).2 rfl) ?_|refine zv 0 rfl (spC ‹_› ‹_›) rfl rfl rfl ?_|refine zv 0 rfl (spV1 ‹_›) rfl rfl rfl ?_|refine zv 0 rfl (spV2 ‹_›) rfl rfl rfl ?_|refine zv 0 rfl hck rfl rfl rfl ?_|refine WL_p hty rfl rfl ?_|refine zh ?_|refine zi ?_|refine za ?_|refine zf ?_|refine ze ?_|refine zd rfl ?_|refine zbZ rfl ?_|refine zl ?_|refine zg ?_|refine zx rfl rfl ?_|refine zq rfl rfl rfl ?_|refine zot rfl rfl rfl ?_|refine zr rfl rfl rfl ?_|refine WL_m rfl (zm hty rfl rfl rfl (by assumption) rfl) ?_|refine zb rfl ?_|refine zj rfl rfl rfl rfl (fun _=>?_) (fun _=>?_)|refine zk rfl (fun _=>?_) (fun _=>?_))
  all_goals rfl
 rw[hC]at hck
 by_cases e0:(normR 0 (lookR env) (zaR f l) F).2.2=0
 ·obtain⟨_,_,hch,hpf⟩:=zzb e0 b1 (by omega)
  have hR:normR 0 (lookR env) (zaR f l) F=((normR 0 (lookR env) (zaR f l) F).1,(normR 0 (lookR env) (zaR f l) F).2.1,0):=Prod.ext rfl (Prod.ext rfl e0)
  rw[hR]at hA
  generalize (normR 0 (lookR env) (zaR f l) F).1=x at hA hch
  generalize (normR 0 (lookR env) (zaR f l) F).2.1=p at hA hch hpf
  clear hR e0
  obtain⟨k,rfl,hkl,hks⟩:=zBF hno hfst.1 l.length l p x rfl hch
  have hcx:=(zyf hch hC).1
  have sx:=(zcH hcx).1
  have hs2:=zBc f k
  have hkz:=zM k
  have hq: ∀ (i:Nat) (a:Tm),l[i]? =some a→ ∃ y q,k[i]? =some y∧FC Tryz.prog 19 [sE env,aT a,.int .i64 F] (.tup [aT y,.agg [sP q],.int .i64 0]):=fun i a ha=>by
   obtain⟨q,y,g1,g2,g3⟩:=hks i a ha
   have ca:=zBK l f hC a (List.mem_of_getElem? ha)
   have:=zxV hlk a F (by have:=zK (List.mem_of_getElem? ha);omega)
   rw[zzJ ca b1 (by omega) g2 (by omega)]at this
   exact⟨y,q,g1,this⟩
  have hsk:=zzd f k (by omega) (by omega)
  have kx:=zpx (zaR f k) (by omega)
  clear hch hks
  dsimp only[goV]at hA
  refine zo hty Tryz.func6 rfl rfl rfl fun w0=>?_
  repeat'(first|(exfalso;omega)|exact absurd rfl ‹_›|refine zL rfl he rfl (fun _=>?_) (fun _=>?_)|refine zL rfl hv rfl (fun _=>?_) (fun _=>?_)|refine zv 0 rfl hg rfl rfl rfl ?_|refine zv 0 rfl f1 rfl rfl rfl ?_|refine WL_m rfl (zx2 rfl zyX zy0 rfl) ?_|refine WL_m rfl (zx2 rfl zyZ zy2 rfl) ?_|refine WL_m rfl (zyW rfl rfl z9 rfl) ?_|refine WL_m rfl (zyW rfl rfl z50 rfl) ?_|refine zv 0 rfl (ztY _) rfl rfl rfl ?_|refine zv 0 rfl (zx0 _) rfl rfl rfl ?_|refine WL_m rfl (zaq hty rfl rfl rfl n0 (re ‹_›).2 rfl) ?_|refine zv 0 rfl (spC ‹_› ‹_›) rfl rfl rfl ?_|refine zv 0 rfl (spV1 ‹_›) rfl rfl rfl ?_|refine zv 0 rfl (spV2 ‹_›) rfl rfl rfl ?_|refine zv 0 rfl hck rfl rfl rfl ?_|refine zv 0 rfl hA rfl rfl rfl ?_|(refine zhH (id:=8) ?_;refine zab (zfY (l:=[(0,_),(2,_),(3,_),(9,_)]) (bl:=[(9,_)]) ⟨(zz rfl rfl),(zz rfl rfl),(zz rfl rfl),(zz rfl rfl),trivial⟩ ⟨(zw rfl rfl),trivial⟩) ?_;refine za ?_)|(refine zhH (id:=9) ?_;refine zab (zfY (l:=[(0,_),(2,_),(3,_),(9,_),(11,_)]) (bl:=[(9,_),(11,_)]) ⟨(zz rfl rfl),(zz rfl rfl),(zz rfl rfl),(zz rfl rfl),(zz rfl rfl),trivial⟩ ⟨(zw rfl rfl),(zw rfl rfl),trivial⟩) ?_;refine za ?_)|(refine zhH (id:=12) ?_;refine zab (zfY (l:=[(0,_),(2,_),(3,_),(9,_),(12,_),(14,_)]) (bl:=[(9,_),(12,_)]) ⟨(zz rfl rfl),(zz rfl rfl),(zz rfl rfl),(zz rfl rfl),(zz rfl rfl),(zz rfl rfl),trivial⟩ ⟨(zw rfl rfl),(zw rfl rfl),trivial⟩) ?_;refine za ?_)|refine WL_p hty rfl rfl ?_|refine zh ?_|refine zi ?_|refine za ?_|refine zf ?_|refine ze ?_|refine zd rfl ?_|refine zbZ rfl ?_|refine zl ?_|refine zg ?_|refine zx rfl rfl ?_|refine zq rfl rfl rfl ?_|refine zot rfl rfl rfl ?_|refine zr rfl rfl rfl ?_|refine WL_m rfl (zm hty rfl rfl rfl (by assumption) rfl) ?_|refine zb rfl ?_|refine zj rfl rfl rfl rfl (fun _=>?_) (fun _=>?_)|refine zk rfl (fun _=>?_) (fun _=>?_))
  all_goals try rfl
  all_goals
   refine zab (zcc 115 rfl) ?_
   refine zW l.length (fun _=>True) (fun i=>⟨envOf [(0,sE env),(2,sT l),(3,.int .i64 F),(9,.ptr 9 0),(12,.ptr 12 0),(15,grV 115 3 (rsT (k.take i))),(16,.int .i64 (i:Nat))],
    bkOf [(9,.box (cT f)),(12,.box (cT (zaR f k))),(115,grB 25 3 (rsT (k.take i)))]⟩) (zfY ⟨(zz rfl rfl),(zz rfl rfl),(zz rfl rfl),(zz rfl rfl),(zz rfl rfl),⟨_,rfl,.inl ⟨.nil _ _ _,rfl⟩⟩,(zz rfl rfl),trivial⟩ ⟨⟨⟨_,rfl,.of_eq ?_⟩,rfl⟩,(zw rfl rfl),(zw rfl rfl),trivial⟩) trivial ?_
   ·first
     |exact congrArg (fun x=>AB.box (cT x)) (hfC ‹_› ‹_›).symm
     |exact congrArg (fun x=>AB.box (cT x)) (hfV1 ‹_›).symm
     |exact congrArg (fun x=>AB.box (cT x)) (hfV2 ‹_›).symm
   intro i hi _
   repeat'(first|refine WL_p hty rfl rfl ?_|refine zh ?_|refine zi ?_|refine za ?_|refine zf ?_|refine ze ?_|refine zd rfl ?_|refine zbZ rfl ?_|refine zl ?_|refine zg ?_|refine zx rfl rfl ?_|refine zq rfl rfl rfl ?_|refine zot rfl rfl rfl ?_|refine zr rfl rfl rfl ?_|refine WL_m rfl (zm hty rfl rfl rfl (by assumption) rfl) ?_|refine zb rfl ?_)
   refine zj rfl rfl rfl rfl (fun hc=>?_) (fun hc=>?_)
   ·have hlt:i <l.length:=by omega
    obtain⟨a,ha,hmem⟩:=zA hlt
    have ra:=zac ha
    obtain⟨y,q,hy,hN⟩:=hq i a ha
    have hnx:k.take (i+1)=k.take i++[y]:=by rw[List.take_add_one,hy,Option.toList_some]
    have hkt:(k.take i).length≤8:=by rw[List.length_take];omega
    repeat'(first|exact absurd rfl ‹_›|refine zv 0 rfl hN rfl rfl rfl ?_|refine WL_m rfl (zck hty 315 rfl rfl rfl rfl rfl rfl rfl (by simp only[zeb,List.length_cons,List.length_nil];omega) rfl rfl rfl) ?_|refine WL_p hty rfl rfl ?_|refine zh ?_|refine zi ?_|refine za ?_|refine zf ?_|refine ze ?_|refine zd rfl ?_|refine zbZ rfl ?_|refine zl ?_|refine zg ?_|refine zx rfl rfl ?_|refine zq rfl rfl rfl ?_|refine zot rfl rfl rfl ?_|refine zr rfl rfl rfl ?_|refine WL_m rfl (zm hty rfl rfl rfl (by assumption) rfl) ?_|refine zb rfl ?_|refine zj rfl rfl rfl rfl (fun _=>?_) (fun _=>?_)|refine zk rfl (fun _=>?_) (fun _=>?_))
    have hnx:rsT (k.take (i+1))=rsT (k.take i)++[cT y]:=by rw[hnx,zas,rs1]
    refine⟨hlt,trivial,(zbf [(115,315)] rfl ⟨⟨_,rfl,.inl ⟨.refl _,rfl⟩⟩,⟨_,rfl,.inl ⟨.refl _,rfl⟩⟩,⟨_,rfl,.inl ⟨.refl _,rfl⟩⟩,⟨_,rfl,.inl ⟨.refl _,rfl⟩⟩,⟨_,rfl,.inl ⟨.refl _,rfl⟩⟩,⟨_,rfl,.inl ⟨zgT rfl ?_,zc7 rfl⟩⟩,⟨_,rfl,zO ?_ rfl⟩,trivial⟩ ⟨⟨⟨_,rfl,.refl _⟩,rfl⟩,⟨⟨_,rfl,.refl _⟩,rfl⟩,⟨⟨_,rfl,zdt ?_⟩,zbu⟩,trivial⟩)⟩
    ·exact hnx.symm
    ·exact congrArg (AV.int .i64) ((zy (by omega) (by omega)).trans (by omega))
    ·exact hnx.symm
   ·obtain rfl:i=l.length:=by omega
    rw[show k.take l.length=k by rw[←hkl,List.take_length]]
    rcases hrk:rsT k with _|⟨r,rs⟩
    ·have hk0:k=[]:=List.length_eq_zero_iff.1 (by rw[←zeb,hrk];rfl)
     subst hk0
     have hsk2:=hsk.args (xs:=[aT f,.lst 3 [] true]) (.cons (.refl _) (.cons (.nilF _ _ _) .nil))
     repeat'(first|exact absurd rfl ‹_›|refine zD (id:=22) zzG rfl (by kernel_rfl) ?_|refine zad 0 rfl hsk2 rfl rfl rfl ?_|refine zad 0 rfl kx rfl rfl rfl ?_|refine zad 0 rfl hw rfl rfl rfl ?_|refine zu (.inl ⟨rfl,zI hty rfl rfl⟩) ?_|refine zaG rfl rfl ?_|refine zau rfl rfl rfl ?_|refine zav rfl rfl rfl ?_|refine zaw rfl rfl rfl ?_|refine zS ⟨by kernel_rfl,?_⟩|refine WL_p hty rfl rfl ?_|refine zh ?_|refine zi ?_|refine za ?_|refine zf ?_|refine ze ?_|refine zd rfl ?_|refine zbZ rfl ?_|refine zl ?_|refine zg ?_|refine zx rfl rfl ?_|refine zq rfl rfl rfl ?_|refine zot rfl rfl rfl ?_|refine zr rfl rfl rfl ?_|refine WL_m rfl (zm hty rfl rfl rfl (by assumption) rfl) ?_|refine zb rfl ?_|refine zj rfl rfl rfl rfl (fun _=>?_) (fun _=>?_)|refine zk rfl (fun _=>?_) (fun _=>?_))
     all_goals rfl
    ·have hsk2:FC Tryz.prog 28 [aT f,.lst 3 (r::rs) false] (aT (zaR f k)):=by rw[←hrk];exact hsk
     repeat'(first|exact absurd rfl ‹_›|(refine zhH (id:=22) ?_;refine zab (zaF 115 rfl) ?_;refine zD (id:=22) zzG rfl (by kernel_rfl) ?_)|refine zad 0 rfl hsk2 rfl rfl rfl ?_|refine zad 0 rfl kx rfl rfl rfl ?_|refine zad 0 rfl hw rfl rfl rfl ?_|refine zu (.inl ⟨rfl,zI hty rfl rfl⟩) ?_|refine zaG rfl rfl ?_|refine zau rfl rfl rfl ?_|refine zav rfl rfl rfl ?_|refine zaw rfl rfl rfl ?_|refine zS ⟨by kernel_rfl,?_⟩|refine WL_p hty rfl rfl ?_|refine zh ?_|refine zi ?_|refine za ?_|refine zf ?_|refine ze ?_|refine zd rfl ?_|refine zbZ rfl ?_|refine zl ?_|refine zg ?_|refine zx rfl rfl ?_|refine zq rfl rfl rfl ?_|refine zot rfl rfl rfl ?_|refine zr rfl rfl rfl ?_|refine WL_m rfl (zm hty rfl rfl rfl (by assumption) rfl) ?_|refine zb rfl ?_|refine zj rfl rfl rfl rfl (fun _=>?_) (fun _=>?_)|refine zk rfl (fun _=>?_) (fun _=>?_))
     all_goals rfl
 ·obtain⟨z1,z2⟩:=zy6 e0
  have hR:normR 0 (lookR env) (zaR f l) F=(zT,[],(normR 0 (lookR env) (zaR f l) F).2.2):=by
   generalize normR 0 (lookR env) (zaR f l) F=r at z1 z2⊢
   obtain⟨x,y,z⟩:=r
   simp only at z1 z2
   rw[z1,z2]
  rw[hR]at hA
  generalize (normR 0 (lookR env) (zaR f l) F).2.2=er at hA e0
  dsimp only[goV]at hA
  refine zo hty Tryz.func6 rfl rfl rfl fun w0=>?_
  repeat'(first|(exfalso;omega)|exact absurd rfl ‹_›|exact absurd (by assumption) e0|refine zL rfl he rfl (fun _=>?_) (fun _=>?_)|refine zL rfl hv rfl (fun _=>?_) (fun _=>?_)|refine zv 0 rfl hg rfl rfl rfl ?_|refine zv 0 rfl f1 rfl rfl rfl ?_|refine WL_m rfl (zx2 rfl zyX zy0 rfl) ?_|refine WL_m rfl (zx2 rfl zyZ zy2 rfl) ?_|refine WL_m rfl (zyW rfl rfl z9 rfl) ?_|refine WL_m rfl (zyW rfl rfl z50 rfl) ?_|refine zv 0 rfl (ztY _) rfl rfl rfl ?_|refine zv 0 rfl (zx0 _) rfl rfl rfl ?_|refine WL_m rfl (zaq hty rfl rfl rfl n0 (re ‹_›).2 rfl) ?_|refine zv 0 rfl (spC ‹_› ‹_›) rfl rfl rfl ?_|refine zv 0 rfl (spV1 ‹_›) rfl rfl rfl ?_|refine zv 0 rfl (spV2 ‹_›) rfl rfl rfl ?_|refine zv 0 rfl hck rfl rfl rfl ?_|refine zv 0 rfl hA rfl rfl rfl ?_|refine zv 0 rfl hw rfl rfl rfl ?_|(refine zhH (id:=8) ?_;refine zab (zfY (l:=[(0,_),(2,_),(3,_),(9,_)]) (bl:=[(9,_)]) ⟨(zz rfl rfl),(zz rfl rfl),(zz rfl rfl),(zz rfl rfl),trivial⟩ ⟨(zw rfl rfl),trivial⟩) ?_;refine za ?_)|(refine zhH (id:=9) ?_;refine zab (zfY (l:=[(0,_),(2,_),(3,_),(9,_),(11,_)]) (bl:=[(9,_),(11,_)]) ⟨(zz rfl rfl),(zz rfl rfl),(zz rfl rfl),(zz rfl rfl),(zz rfl rfl),trivial⟩ ⟨(zw rfl rfl),(zw rfl rfl),trivial⟩) ?_;refine za ?_)|(refine zhH (id:=12) ?_;refine zab (zfY (l:=[(0,_),(2,_),(3,_),(9,_),(12,_),(14,_)]) (bl:=[(9,_),(12,_)]) ⟨(zz rfl rfl),(zz rfl rfl),(zz rfl rfl),(zz rfl rfl),(zz rfl rfl),(zz rfl rfl),trivial⟩ ⟨(zw rfl rfl),(zw rfl rfl),trivial⟩) ?_;refine za ?_)|refine WL_p hty rfl rfl ?_|refine zh ?_|refine zi ?_|refine za ?_|refine zf ?_|refine ze ?_|refine zd rfl ?_|refine zbZ rfl ?_|refine zl ?_|refine zg ?_|refine zx rfl rfl ?_|refine zq rfl rfl rfl ?_|refine zot rfl rfl rfl ?_|refine zr rfl rfl rfl ?_|refine WL_m rfl (zm hty rfl rfl rfl (by assumption) rfl) ?_|refine zb rfl ?_|refine zj rfl rfl rfl rfl (fun _=>?_) (fun _=>?_)|refine zk rfl (fun _=>?_) (fun _=>?_))
  all_goals rfl
end Go.Proofs.YtokfbblhjpfjkaaGreat
