/- A decoder met by a constructor of its sort is reduced to what the constructor sa -/
import Derived.Test.YtoknnfhgoikpiaaGreatLDecL
import Derived.Test.YtoknnfhgoikpiaaGreatLDecode
import Derived.Test.YtoknnfhgoikpiaaGreatLFill
import Derived.Test.YtoknnfhgoikpiaaGreatLKTwinB
import Derived.Test.YtoknnfhgoikpiaaGreatGH
import Derived.Test.YtoknnfhgoikpiaaGreatGL
namespace Go.Proofs.YtoknnfhgoikpiaaGreat
set_option linter.unusedSimpArgs false
set_option linter.unusedVariables false
open Go.Aw Go.RowKit
def zxo:List (Nat×List Nat):=[(0,[]),(1,[]),(2,[]),(3,[1,2]),(4,[1,2,3]),(5,[1,2,3,4]),(6,[]),(7,[0,1,2,3,4,5,6]),(8,[0,1,2,3,4,5,6,7])]
def zxk:List (Nat×List Nat):=[(0,[]),(1,[0]),(2,[0,1]),(3,[0,1,2]),(4,[0,1,2]),(5,[0,1,2,4]),(6,[0,1,2,3,4,5]),(7,[0,1,2,3,4,5,6]),(8,[0,1,2,3,4,5,6,7]),(9,[0,1,2,3,4,5,6,7,8]),(10,[0,1,2,3,4,5,6,7,8,9]),(11,[0,1,2,3,4,5,6,7,8]),(12,[0,1,2,3,4,5,6,7,8,9,10,11]),(13,[0,1,2,3,4,5,6,7,8,9,10,11,12]),(14,[0,1,2,3,4,5,6,7,8,9,10,11,12,13]),(15,[0,1,2,3,4,5,6,7,8]),(16,[0,1,2,3,4,5,6,7,8]),(17,[0,1,2,3,4,5,6,7,8,15,16]),(18,[0,1,2,3,4,5,6,7,8,15,16,17]),(19,[0,1,2,3,4,5,6,7,8,15,16,17,18]),(20,[0,1,2,3,4,5,6,7,8,9,10,11,12,13,14,15,16,17,18,19]),(21,[0,1,2,3,4,5,6,7,8,9,10,11,12,13,14,15,16,17,18,19,20])]
def zxy:List (Nat×List Nat):=[(0,[]),(1,[]),(2,[1]),(3,[]),(4,[]),(5,[3,4]),(6,[3,4,5]),(7,[3,4,5,6]),(8,[1,2,3,4,5,6,7]),(9,[1,2,3,4,5,6,7,8]),(10,[1,2,3,4,5,6,7,8,9]),(11,[1,2,3,4,5,6,7,8,9,10]),(12,[0,1,2,3,4,5,6,7,8,9,10,11]),(13,[]),(14,[0,1,2,3,4,5,6,7,8,9,10,11,12,13]),(15,[]),(16,[0,1,2,3,4,5,6,7,8,9,10,11,12,13,14,15]),(17,[0,1,2,3,4,5,6,7,8,9,10,11,12,13,14,15,16]),(18,[0,1,2,3,4,5,6,7,8,9,10,11,12,13,14,15,16,17]),(19,[0,1,2,3,4,5,6,7,8,9,10,11,12,13,14,15,16,17,18])]
def zxD:List (Nat×List Nat):=[(0,[]),(1,[0]),(2,[0,1]),(3,[0,1,2]),(4,[0,1,2,3]),(5,[0,1,2,3]),(6,[0,1,2,3,4,5]),(7,[0,1,2,3,4,5,6]),(8,[0,1,2,3,4,5,6,7]),(9,[0,1,2,3,4,5,6,7,8]),(10,[0,1,2,3,4,5,6,7,8,9]),(11,[0,1,2,3,4,5,6,7,8,9,10]),(12,[0,1,2,3,4,5,6,7,8,9,10,11]),(13,[0,1,2,3,4,5,6,7,8,9,10,11]),(14,[0,1,2,3,4,5,6,7,8,9,10,11,12,13]),(15,[0,1,2,3,4,5,6,7,8,9,10,11,12,13,14]),(16,[0,1,2,3,4,5,6,7,8,9,10,11,12,13,14,15]),(17,[0,1,2,3,4,5,6,7,8,9,10,11]),(18,[0,1,2,3,4,5,6,7,8,9,10,11]),(19,[0,1,2,3,4,5,6,7,8,9,10,11,17,18]),(20,[0,1,2,3,4,5,6,7,8,9,10,11,17,18,19]),(21,[0,1,2,3,4,5,6,7,8,9,10,11,17,18,19,20]),(22,[0,1,2,3,4,5,6,7,8,9,10,11,12,13,14,15,16,17,18,19,20,21]),(23,[0,1,2,3,4,5,6,7,8,9,10,11,12,13,14,15,16,17,18,19,20,21,22])]
attribute [local irreducible] WL AC WD WE MStep OkOp
attribute [local irreducible] zfd zvN
theorem zyp{l:List Tm}(hne:l≠[])(hz:sizes l≤9000)(fr:Nat): ∀ n,sizes (fillT l fr n)≤9000*n
 |0=>by simp[fillT,sizes]
 |n+1=>by
  have h1:=zyp hne hz fr n
  have h2:=zK (zzl (fr:=fr) (n:=n+1) hne (show zyL l fr n∈fillT l fr (n+1) by rw[zx8];simp))
  have h3:(zyL l fr n).size≤sizes l:=zK (zzl (fr:=fr) (n:=n+1) hne (show zyL l fr n∈fillT l fr (n+1) by rw[zx8];simp))
  rw[zx8,zax]
  simp only[sizes];omega
set_option maxHeartbeats 16000000 in
theorem zy5(env:List En)(n c:Int)(l:List Tm)(h:zbJ env+sizes l≤1048576):FC Tryz.prog 6 [sE env,.int .i64 n,.int .i64 c,sT l] (.bool true):=by
 have he:=znh env (by omega)
 have hv:=zde l (by omega)
 have hg:=zrl env (by omega)
 have hw:=zyn
 have hlen:=zbU env
 have hll:=zM l
 have hrE:=zaW env
 have hrT:=zeb l
 by_cases hgo:(zjk env=false∧zbk l=false)∧(l.length≠0∧l.length≤20)∧envI env=0∧env.length≠0
 case neg=>
  refine zo hty Tryz.func6 rfl rfl rfl fun w0=>?_
  repeat'(first|(exfalso;omega)|exact absurd ⟨⟨by assumption,by assumption⟩,⟨by omega,by omega⟩,by omega,by omega⟩ hgo|refine zL rfl he rfl (fun _=>?_) (fun _=>?_)|refine zL rfl hv rfl (fun _=>?_) (fun _=>?_)|refine zv 0 rfl hg rfl rfl rfl ?_|refine WL_p hty rfl rfl ?_|refine zh ?_|refine zi ?_|refine za ?_|refine ze ?_|refine zd rfl ?_|refine zbZ rfl ?_|refine zg ?_|refine zx rfl rfl ?_|refine zq rfl rfl rfl ?_|refine zot rfl rfl rfl ?_|refine zr rfl rfl rfl ?_|refine WL_m rfl (zm hty rfl rfl rfl (by assumption) rfl) ?_|refine zb rfl ?_|refine zj rfl rfl rfl rfl (fun _=>?_) (fun _=>?_)|refine zk rfl (fun _=>?_) (fun _=>?_))
  all_goals first
   |rfl
   |exact absurd ⟨⟨by assumption,by assumption⟩,⟨by omega,by omega⟩,by omega,by omega⟩ hgo
 obtain⟨⟨g1,g2⟩,⟨g3,g4⟩,hE,g5⟩:=hgo
 rw[g1]at he
 rw[g2]at hv
 rw[hE]at hg
 have hlne:l≠[]:=fun q=>g3 (by rw[q];rfl)
 have hzl:sizes l≤9000:=by
  simp only[zbk,Bool.or_eq_false_iff,decide_eq_false_iff_not]at g2
  omega
 obtain⟨zn,kn,hkn,hke⟩:=zyq n (m:=env.length) (by omega) (by omega)
 obtain⟨e,hen,hem⟩:=zA hkn
 have hes:=zbn hem
 have hes':e.size=e.typ.size+e.body.size+e.block.size:=rfl
 have re:=zeM hen
 rw[←hrE]at zn
 have h1:IntKind.i64.wrap ((IntKind.u64.wrap n).tmod (IntKind.u64.wrap ((rsE env).length:Nat)))=(kn:Int):=by rw[hrE];exact hke
 by_cases hk:e.kind=4∧e.block.cons.length≠0
 case neg=>
  have hrC:=zZ e.block.cons
  refine zo hty Tryz.func6 rfl rfl rfl fun w0=>?_
  repeat'(first|exact absurd rfl ‹_›|(exfalso;omega)|refine zv 0 rfl he rfl rfl rfl ?_|refine zv 0 rfl hv rfl rfl rfl ?_|refine zv 0 rfl hg rfl rfl rfl ?_|refine WL_m rfl (zx2 rfl zyX zy0 rfl) ?_|refine WL_m rfl (zx2 rfl zyZ zy2 rfl) ?_|refine WL_m rfl (zyW rfl rfl zn rfl) ?_|(refine zhH (id:=4) ?_;refine zab (s':=⟨envOf [(0,sE env),(1,.int .i64 (kn:Int)),(2,.int .i64 c),(3,sT l)],bkOf []⟩) (zfY ⟨(zz rfl rfl),⟨_,rfl,zO ?_ rfl⟩,(zz rfl rfl),(zz rfl rfl),trivial⟩ trivial) ?_;exact congrArg (AV.int .i64) h1;refine za ?_)|refine WL_m rfl (zm hty rfl rfl rfl re rfl) ?_|refine WL_p hty rfl rfl ?_|refine zh ?_|refine zi ?_|refine za ?_|refine ze ?_|refine zd rfl ?_|refine zbZ rfl ?_|refine zg ?_|refine zx rfl rfl ?_|refine zq rfl rfl rfl ?_|refine zot rfl rfl rfl ?_|refine zr rfl rfl rfl ?_|refine WL_m rfl (zm hty rfl rfl rfl (by assumption) rfl) ?_|refine zb rfl ?_|refine zj rfl rfl rfl rfl (fun _=>?_) (fun _=>?_)|refine zk rfl (fun _=>?_) (fun _=>?_))
  all_goals first
   |rfl
   |exact h1
   |(exfalso;omega)
 obtain⟨k4,hcn⟩:=hk
 obtain⟨hre,hkn2⟩:=zez hE hen
 have hsh:=zng (hkn2.resolve_left (by omega))
 obtain⟨d0,d1,d2⟩:=zr5 hre k4
 have hcsz:=zak e.block.cons
 have hbz:e.block.size=zbh e.block.sorts+zbg e.block.cons:=rfl
 obtain⟨zc,kc,hkc,hkce⟩:=zyq c (m:=e.block.cons.length) (by omega) (by omega)
 obtain⟨con,hcon,hcm⟩:=zA hkc
 have rc:=zby hcon
 have hrC:=zZ e.block.cons
 rw[←hrC]at zc
 have h2:IntKind.i64.wrap ((IntKind.u64.wrap c).tmod (IntKind.u64.wrap ((rsC e.block.cons).length:Nat)))=(kc:Int):=by rw[hrC];exact hkce
 have hK:=zd9 e.block e.base (kc:Int) (by omega)
 generalize hKd:zaO e.block e.base (kc:Int)=K at hK
 by_cases hk2:(0≤K∧K <env.length)∧con.sort=e.which
 case neg=>
  refine zo hty Tryz.func6 rfl rfl rfl fun w0=>?_
  repeat'(first|exact absurd rfl ‹_›|(exfalso;omega)|refine zv 0 rfl he rfl rfl rfl ?_|refine zv 0 rfl hv rfl rfl rfl ?_|refine zv 0 rfl hg rfl rfl rfl ?_|refine WL_m rfl (zx2 rfl zyX zy0 rfl) ?_|refine WL_m rfl (zx2 rfl zyZ zy2 rfl) ?_|refine WL_m rfl (zyW rfl rfl zn rfl) ?_|refine WL_m rfl (zyW rfl rfl zc rfl) ?_|(refine zhH (id:=4) ?_;refine zab (s':=⟨envOf [(0,sE env),(1,.int .i64 (kn:Int)),(2,.int .i64 c),(3,sT l)],bkOf []⟩) (zfY ⟨(zz rfl rfl),⟨_,rfl,zO ?_ rfl⟩,(zz rfl rfl),(zz rfl rfl),trivial⟩ trivial) ?_;exact congrArg (AV.int .i64) h1;refine za ?_)|(refine zhH (id:=8) ?_;refine zab (s':=⟨envOf [(0,sE env),(1,.int .i64 (kn:Int)),(2,.int .i64 (kc:Int)),(3,sT l),(9,.ptr 9 0)],bkOf [(9,.box (cB e.block))]⟩) (zfY ⟨(zz rfl rfl),(zz rfl rfl),⟨_,rfl,zO ?_ rfl⟩,(zz rfl rfl),(zz rfl rfl),trivial⟩ ⟨(zw rfl rfl),trivial⟩) ?_;exact congrArg (AV.int .i64) h2;refine zD (id:=8) zxo rfl (by kernel_rfl) ?_)|refine WL_m rfl (zm hty rfl rfl rfl re rfl) ?_|refine WE_m rfl (zm hty rfl rfl rfl re rfl) ?_|refine WE_m rfl (zm hty rfl rfl rfl rc rfl) ?_|refine zad 0 rfl hK rfl rfl rfl ?_|(refine zhH (id:=9) ?_;refine zab (zfY (l:=[(0,_),(1,_),(2,_),(3,_),(9,_),(10,_)]) (bl:=[(9,_)]) ⟨(zz rfl rfl),(zz rfl rfl),(zz rfl rfl),(zz rfl rfl),(zz rfl rfl),(zz rfl rfl),trivial⟩ ⟨(zw rfl rfl),trivial⟩) ?_;refine zD (id:=9) zxk rfl (by kernel_rfl) ?_)|refine zu (.inl ⟨rfl,zI hty rfl rfl⟩) ?_|refine zu (.inl ⟨rfl,zm hty rfl rfl rfl (by assumption) rfl⟩) ?_|refine zaG rfl rfl ?_|refine zau rfl rfl rfl ?_|refine zav rfl rfl rfl ?_|refine zaw rfl rfl rfl ?_|refine zS ⟨by kernel_rfl,?_⟩|refine WL_p hty rfl rfl ?_|refine zh ?_|refine zi ?_|refine za ?_|refine ze ?_|refine zd rfl ?_|refine zbZ rfl ?_|refine zg ?_|refine zx rfl rfl ?_|refine zq rfl rfl rfl ?_|refine zot rfl rfl rfl ?_|refine zr rfl rfl rfl ?_|refine WL_m rfl (zm hty rfl rfl rfl (by assumption) rfl) ?_|refine zb rfl ?_|refine zj rfl rfl rfl rfl (fun _=>?_) (fun _=>?_)|refine zk rfl (fun _=>?_) (fun _=>?_)|refine zaC rfl rfl rfl rfl (fun _=>?_) (fun _=>?_))
  all_goals first
   |rfl
   |exact h1
   |exact h2
   |(exfalso;omega)
 obtain⟨⟨q1,q2⟩,q3⟩:=hk2
 obtain⟨j,rfl⟩: ∃ j:Nat,K=(j:Int):=⟨K.toNat,by omega⟩
 have hj:j <env.length:=by omega
 obtain⟨x,hx,hxm⟩:=zA hj
 have rx:=zeM hx
 obtain⟨s,hs,hsm⟩:=zA (show e.which.toNat <e.block.sorts.length by omega)
 have rs:=zaK hs
 have hrA:=zN con.args
 have hrI:=zN s.idx
 have hss:=zat hsm
 have hsi:=zae s.idx
 have hss':s.size=zaH s.idx+s.decT.size:=rfl
 have hcs:=zaB hcm
 have hca:=zae con.args
 have hcs':con.size=zaH con.args+sizes con.idx+con.dec.size:=rfl
 obtain⟨r1,r2⟩:=zrN hsh hcm
 have r3:s.idx.length≤12:=by
  have:=zpl hsh hs
  simp only[sortB,zkK,Bool.and_eq_true,decide_eq_true_eq]at this
  exact this.1.1
 have z3:=zyp hlne hzl 3 con.args.length
 have z2:=zyp hlne hzl 2 s.idx.length
 have l3:=zyh l 3 con.args.length
 have l2:=zyh l 2 s.idx.length
 have f1:=zz3 (zzm l 3 con.args.length hlne (by omega) (by omega) (by omega))
 have f2:=zzm l 2 s.idx.length hlne (by omega) (by omega) (by omega)
 rw[←hrA]at f1
 rw[←hrI]at f2
 generalize hpre:fillT l 2 (rsA s.idx).length=pre at f2
 generalize hargs:fillT l 3 (rsA con.args).length=args at f1
 rw[hrI]at hpre
 rw[hrA]at hargs
 rw[hpre]at z2 l2
 rw[hargs]at z3 l3
 have hdl:=fun(hc:z8 (zaR (.mk 3 (kn:Int) []) (pre++[zaR (.mk 3 (j:Int) []) args]))=0) (h5:x.kind=5) (hb:x.base=e.base)=>
  zzv hE hen hx k4 h5 hb (by rw[←hKd]) hcon q3 l3 hs l2
 have zt:(zaR (.mk 3 (j:Int) []) args).size≤200000:=by
  rw[zdd]
  have:=zM args
  simp only[Tm.size,sizes];omega
 have zp:sizes (pre++[zaR (.mk 3 (j:Int) []) args])≤400000:=by
  rw[zax]
  simp only[sizes];omega
 have p1:=zzd (.mk 3 (j:Int) []) args (by simp[Tm.size,sizes]) (by omega)
 have p2:=zzd (.mk 3 (kn:Int) []) (pre++[zaR (.mk 3 (j:Int) []) args]) (by simp[Tm.size,sizes]) (by omega)
 simp only[sT,zas,rs1]at p2
 have zT2:(zaR (.mk 3 (kn:Int) []) (pre++[zaR (.mk 3 (j:Int) []) args])).size≤1048576:=by
  rw[zdd]
  have:=zM (pre++[zaR (.mk 3 (j:Int) []) args])
  simp only[Tm.size,sizes];omega
 have hck:=zo2 _ zT2
 have hroot:=zwU env _ (by omega) zT2
 have hisr:=zwO env _ (by omega) zT2
 have hargc:=fun(hc:z8 (zaR (.mk 3 (kn:Int) []) (pre++[zaR (.mk 3 (j:Int) []) args]))=0)=>
  (zzg _ args rfl ((zzg _ _ rfl hc).2 (zaR (.mk 3 (j:Int) []) args) (by simp))).2
 have hroot2: ∀ r,lookR env (zaR (.mk 3 (kn:Int) []) (pre++[zaR (.mk 3 (j:Int) []) args]))=some r→z8 (zaR (.mk 3 (kn:Int) []) (pre++[zaR (.mk 3 (j:Int) []) args]))=0→
  rootR env (zaR (.mk 3 (kn:Int) []) (pre++[zaR (.mk 3 (j:Int) []) args]))=(if r.2≠0 then(zT,r.2)else(r.1,0))∧isR env (zaR (.mk 3 (kn:Int) []) (pre++[zaR (.mk 3 (j:Int) []) args]))=true:=by
  intro r hr hc
  unfold rootR isR
  rw[if_neg (by omega),if_neg (by omega),hr]
  exact⟨rfl,by simp[hE,hc]⟩
 generalize zaR (.mk 3 (j:Int) []) args=last at*
 generalize zaR (.mk 3 (kn:Int) []) (pre++[last])=t at*
 by_cases hgo:z8 t=0∧x.kind=5∧x.base=e.base
 case neg=>
  have hpl:pre.length≤12:=by omega
  have hrp:=zeb pre
  clear hdl hargc hroot2 hroot hisr
  generalize z8 t=ct at hck hgo
  cases pre with
  |nil=>
   refine zo hty Tryz.func6 rfl rfl rfl fun w0=>?_
   repeat'(first|exact absurd rfl ‹_›|(exfalso;omega)|refine zv 0 rfl he rfl rfl rfl ?_|refine zv 0 rfl hv rfl rfl rfl ?_|refine zv 0 rfl hg rfl rfl rfl ?_|refine WL_m rfl (zx2 rfl zyX zy0 rfl) ?_|refine WL_m rfl (zx2 rfl zyZ zy2 rfl) ?_|refine WL_m rfl (zyW rfl rfl zn rfl) ?_|refine WL_m rfl (zyW rfl rfl zc rfl) ?_|(refine zhH (id:=4) ?_;refine zab (s':=⟨envOf [(0,sE env),(1,.int .i64 (kn:Int)),(2,.int .i64 c),(3,sT l)],bkOf []⟩) (zfY ⟨(zz rfl rfl),⟨_,rfl,zO ?_ rfl⟩,(zz rfl rfl),(zz rfl rfl),trivial⟩ trivial) ?_;exact congrArg (AV.int .i64) h1;refine za ?_)|(refine zhH (id:=8) ?_;refine zab (s':=⟨envOf [(0,sE env),(1,.int .i64 (kn:Int)),(2,.int .i64 (kc:Int)),(3,sT l),(9,.ptr 9 0)],bkOf [(9,.box (cB e.block))]⟩) (zfY ⟨(zz rfl rfl),(zz rfl rfl),⟨_,rfl,zO ?_ rfl⟩,(zz rfl rfl),(zz rfl rfl),trivial⟩ ⟨(zw rfl rfl),trivial⟩) ?_;exact congrArg (AV.int .i64) h2;refine zD (id:=8) zxo rfl (by kernel_rfl) ?_)|refine WL_m rfl (zm hty rfl rfl rfl re rfl) ?_|refine WL_m rfl (zm hty rfl rfl rfl rc rfl) ?_|refine WE_m rfl (zm hty rfl rfl rfl re rfl) ?_|refine WE_m rfl (zm hty rfl rfl rfl rc rfl) ?_|refine WE_m rfl (zm hty rfl rfl rfl rx rfl) ?_|refine WE_m rfl (zaq hty rfl rfl rfl d0 rs rfl) ?_|refine zad 0 rfl hK rfl rfl rfl ?_|(refine zhH (id:=9) ?_;refine zab (zfY (l:=[(0,_),(1,_),(2,_),(3,_),(9,_),(10,_)]) (bl:=[(9,_)]) ⟨(zz rfl rfl),(zz rfl rfl),(zz rfl rfl),(zz rfl rfl),(zz rfl rfl),(zz rfl rfl),trivial⟩ ⟨(zw rfl rfl),trivial⟩) ?_;refine zD (id:=9) zxk rfl (by kernel_rfl) ?_)|(refine zhH (id:=11) ?_;refine zab (zfY (l:=[(0,_),(1,_),(2,_),(3,_),(9,_),(10,_)]) (bl:=[(9,_)]) ⟨(zz rfl rfl),(zz rfl rfl),(zz rfl rfl),(zz rfl rfl),(zz rfl rfl),(zz rfl rfl),trivial⟩ ⟨(zw rfl rfl),trivial⟩) ?_;refine za ?_)|refine zv 0 rfl f1 rfl rfl rfl ?_|(refine zhH (id:=12) ?_;refine zab (zfY (l:=[(0,_),(1,_),(2,_),(3,_),(9,_),(10,_),(11,_)]) (bl:=[(9,_)]) ⟨(zz rfl rfl),(zz rfl rfl),(zz rfl rfl),(zz rfl rfl),(zz rfl rfl),(zz rfl rfl),(zz rfl rfl),trivial⟩ ⟨(zw rfl rfl),trivial⟩) ?_;refine zD (id:=12) zxy rfl (by kernel_rfl) ?_)|refine zad 231 rfl f2 rfl rfl rfl ?_|refine zad 0 rfl (zx0 _) rfl rfl rfl ?_|refine zad 0 rfl p1 rfl rfl rfl ?_|refine WE_m rfl (zwj (d:=some 137) hty 237 rfl rfl rfl rfl rfl rfl rfl (List.cons_ne_nil _ _) (by simp only[List.length_nil,List.length_cons];omega) rfl rfl rfl) ?_|refine WE_m rfl (zzi (d:=some 137) hty 237 rfl rfl rfl rfl rfl rfl rfl rfl (List.cons_ne_nil _ _) (by simp only[List.length_cons,List.length_nil,zeb];omega) rfl rfl rfl) ?_|refine zv 0 rfl (zx0 _) rfl rfl rfl ?_|refine zv 0 rfl p2 rfl rfl rfl ?_|(refine zhH (id:=14) ?_;refine zab (zfY (l:=[(0,_),(1,_),(2,_),(9,_),(10,_),(11,_),(13,_)]) (bl:=[(9,_),(13,_)]) ⟨(zz rfl rfl),(zz rfl rfl),(zz rfl rfl),(zz rfl rfl),(zz rfl rfl),(zz rfl rfl),(zz rfl rfl),trivial⟩ ⟨(zw rfl rfl),(zw rfl rfl),trivial⟩) ?_;refine zD (id:=14) zxD rfl (by kernel_rfl) ?_)|refine zad 0 rfl hck rfl rfl rfl ?_|refine zu (.inl ⟨rfl,zI hty rfl rfl⟩) ?_|refine zu (.inl ⟨rfl,zm hty rfl rfl rfl (by assumption) rfl⟩) ?_|refine zaG rfl rfl ?_|refine zau rfl rfl rfl ?_|refine zav rfl rfl rfl ?_|refine zaw rfl rfl rfl ?_|refine zS ⟨by kernel_rfl,?_⟩|refine WL_p hty rfl rfl ?_|refine zh ?_|refine zi ?_|refine za ?_|refine ze ?_|refine zd rfl ?_|refine zbZ rfl ?_|refine zg ?_|refine zx rfl rfl ?_|refine zq rfl rfl rfl ?_|refine zot rfl rfl rfl ?_|refine zr rfl rfl rfl ?_|refine WL_m rfl (zm hty rfl rfl rfl (by assumption) rfl) ?_|refine zb rfl ?_|refine zj rfl rfl rfl rfl (fun _=>?_) (fun _=>?_)|refine zk rfl (fun _=>?_) (fun _=>?_)|refine zaC rfl rfl rfl rfl (fun _=>?_) (fun _=>?_))
   all_goals first
    |rfl
    |(exfalso;omega)
  |cons y pre=>
   simp only[zeb,List.length_cons]at hpl
   refine zo hty Tryz.func6 rfl rfl rfl fun w0=>?_
   repeat'(first|exact absurd rfl ‹_›|(exfalso;omega)|refine zv 0 rfl he rfl rfl rfl ?_|refine zv 0 rfl hv rfl rfl rfl ?_|refine zv 0 rfl hg rfl rfl rfl ?_|refine WL_m rfl (zx2 rfl zyX zy0 rfl) ?_|refine WL_m rfl (zx2 rfl zyZ zy2 rfl) ?_|refine WL_m rfl (zyW rfl rfl zn rfl) ?_|refine WL_m rfl (zyW rfl rfl zc rfl) ?_|(refine zhH (id:=4) ?_;refine zab (s':=⟨envOf [(0,sE env),(1,.int .i64 (kn:Int)),(2,.int .i64 c),(3,sT l)],bkOf []⟩) (zfY ⟨(zz rfl rfl),⟨_,rfl,zO ?_ rfl⟩,(zz rfl rfl),(zz rfl rfl),trivial⟩ trivial) ?_;exact congrArg (AV.int .i64) h1;refine za ?_)|(refine zhH (id:=8) ?_;refine zab (s':=⟨envOf [(0,sE env),(1,.int .i64 (kn:Int)),(2,.int .i64 (kc:Int)),(3,sT l),(9,.ptr 9 0)],bkOf [(9,.box (cB e.block))]⟩) (zfY ⟨(zz rfl rfl),(zz rfl rfl),⟨_,rfl,zO ?_ rfl⟩,(zz rfl rfl),(zz rfl rfl),trivial⟩ ⟨(zw rfl rfl),trivial⟩) ?_;exact congrArg (AV.int .i64) h2;refine zD (id:=8) zxo rfl (by kernel_rfl) ?_)|refine WL_m rfl (zm hty rfl rfl rfl re rfl) ?_|refine WL_m rfl (zm hty rfl rfl rfl rc rfl) ?_|refine WE_m rfl (zm hty rfl rfl rfl re rfl) ?_|refine WE_m rfl (zm hty rfl rfl rfl rc rfl) ?_|refine WE_m rfl (zm hty rfl rfl rfl rx rfl) ?_|refine WE_m rfl (zaq hty rfl rfl rfl d0 rs rfl) ?_|refine zad 0 rfl hK rfl rfl rfl ?_|(refine zhH (id:=9) ?_;refine zab (zfY (l:=[(0,_),(1,_),(2,_),(3,_),(9,_),(10,_)]) (bl:=[(9,_)]) ⟨(zz rfl rfl),(zz rfl rfl),(zz rfl rfl),(zz rfl rfl),(zz rfl rfl),(zz rfl rfl),trivial⟩ ⟨(zw rfl rfl),trivial⟩) ?_;refine zD (id:=9) zxk rfl (by kernel_rfl) ?_)|(refine zhH (id:=11) ?_;refine zab (zfY (l:=[(0,_),(1,_),(2,_),(3,_),(9,_),(10,_)]) (bl:=[(9,_)]) ⟨(zz rfl rfl),(zz rfl rfl),(zz rfl rfl),(zz rfl rfl),(zz rfl rfl),(zz rfl rfl),trivial⟩ ⟨(zw rfl rfl),trivial⟩) ?_;refine za ?_)|refine zv 0 rfl f1 rfl rfl rfl ?_|(refine zhH (id:=12) ?_;refine zab (zfY (l:=[(0,_),(1,_),(2,_),(3,_),(9,_),(10,_),(11,_)]) (bl:=[(9,_)]) ⟨(zz rfl rfl),(zz rfl rfl),(zz rfl rfl),(zz rfl rfl),(zz rfl rfl),(zz rfl rfl),(zz rfl rfl),trivial⟩ ⟨(zw rfl rfl),trivial⟩) ?_;refine zD (id:=12) zxy rfl (by kernel_rfl) ?_)|refine zad 231 rfl f2 rfl rfl rfl ?_|refine zad 0 rfl (zx0 _) rfl rfl rfl ?_|refine zad 0 rfl p1 rfl rfl rfl ?_|refine WE_m rfl (zwj (d:=some 137) hty 237 rfl rfl rfl rfl rfl rfl rfl (List.cons_ne_nil _ _) (by simp only[List.length_nil,List.length_cons];omega) rfl rfl rfl) ?_|refine WE_m rfl (zzi (d:=some 137) hty 237 rfl rfl rfl rfl rfl rfl rfl rfl (List.cons_ne_nil _ _) (by simp only[List.length_cons,List.length_nil,zeb];omega) rfl rfl rfl) ?_|refine zv 0 rfl (zx0 _) rfl rfl rfl ?_|refine zv 0 rfl p2 rfl rfl rfl ?_|(refine zhH (id:=14) ?_;refine zab (zfY (l:=[(0,_),(1,_),(2,_),(9,_),(10,_),(11,_),(13,_)]) (bl:=[(9,_),(13,_)]) ⟨(zz rfl rfl),(zz rfl rfl),(zz rfl rfl),(zz rfl rfl),(zz rfl rfl),(zz rfl rfl),(zz rfl rfl),trivial⟩ ⟨(zw rfl rfl),(zw rfl rfl),trivial⟩) ?_;refine zD (id:=14) zxD rfl (by kernel_rfl) ?_)|refine zad 0 rfl hck rfl rfl rfl ?_|refine zu (.inl ⟨rfl,zI hty rfl rfl⟩) ?_|refine zu (.inl ⟨rfl,zm hty rfl rfl rfl (by assumption) rfl⟩) ?_|refine zaG rfl rfl ?_|refine zau rfl rfl rfl ?_|refine zav rfl rfl rfl ?_|refine zaw rfl rfl rfl ?_|refine zS ⟨by kernel_rfl,?_⟩|refine WL_p hty rfl rfl ?_|refine zh ?_|refine zi ?_|refine za ?_|refine ze ?_|refine zd rfl ?_|refine zbZ rfl ?_|refine zg ?_|refine zx rfl rfl ?_|refine zq rfl rfl rfl ?_|refine zot rfl rfl rfl ?_|refine zr rfl rfl rfl ?_|refine WL_m rfl (zm hty rfl rfl rfl (by assumption) rfl) ?_|refine zb rfl ?_|refine zj rfl rfl rfl rfl (fun _=>?_) (fun _=>?_)|refine zk rfl (fun _=>?_) (fun _=>?_)|refine zaC rfl rfl rfl rfl (fun _=>?_) (fun _=>?_))
   all_goals first
    |rfl
    |(exfalso;omega)
 obtain⟨hc,h5,hb⟩:=hgo
 have hlk:=hdl hc h5 hb
 obtain⟨hr1,hr2⟩:=hroot2 _ hlk hc
 have hiz:=zeB con.dec args 0
 have hdec:=zzt e.block kc con args (by omega) hsh hcon l3 (by rw[q3];exact d2) (by omega) (hargc hc)
 rw[hr1,zzH]at hroot
 rw[hr2]at hisr
 rw[hc]at hck
 clear hdl hroot2 hargc hlk hr1
 generalize instT con.dec args 0=R at hroot hdec hiz
 have kt:=zpx R.1 (by omega)
 have hpl:pre.length≤12:=by omega
 cases pre with
 |nil=>
  refine zo hty Tryz.func6 rfl rfl rfl fun w0=>?_
  repeat'(first|exact absurd rfl ‹_›|(exfalso;omega)|refine zv 0 rfl he rfl rfl rfl ?_|refine zv 0 rfl hv rfl rfl rfl ?_|refine zv 0 rfl hg rfl rfl rfl ?_|refine WL_m rfl (zx2 rfl zyX zy0 rfl) ?_|refine WL_m rfl (zx2 rfl zyZ zy2 rfl) ?_|refine WL_m rfl (zyW rfl rfl zn rfl) ?_|refine WL_m rfl (zyW rfl rfl zc rfl) ?_|(refine zhH (id:=4) ?_;refine zab (s':=⟨envOf [(0,sE env),(1,.int .i64 (kn:Int)),(2,.int .i64 c),(3,sT l)],bkOf []⟩) (zfY ⟨(zz rfl rfl),⟨_,rfl,zO ?_ rfl⟩,(zz rfl rfl),(zz rfl rfl),trivial⟩ trivial) ?_;exact congrArg (AV.int .i64) h1;refine za ?_)|(refine zhH (id:=8) ?_;refine zab (s':=⟨envOf [(0,sE env),(1,.int .i64 (kn:Int)),(2,.int .i64 (kc:Int)),(3,sT l),(9,.ptr 9 0)],bkOf [(9,.box (cB e.block))]⟩) (zfY ⟨(zz rfl rfl),(zz rfl rfl),⟨_,rfl,zO ?_ rfl⟩,(zz rfl rfl),(zz rfl rfl),trivial⟩ ⟨(zw rfl rfl),trivial⟩) ?_;exact congrArg (AV.int .i64) h2;refine zD (id:=8) zxo rfl (by kernel_rfl) ?_)|refine WL_m rfl (zm hty rfl rfl rfl re rfl) ?_|refine WL_m rfl (zm hty rfl rfl rfl rc rfl) ?_|refine WE_m rfl (zm hty rfl rfl rfl re rfl) ?_|refine WE_m rfl (zm hty rfl rfl rfl rc rfl) ?_|refine WE_m rfl (zm hty rfl rfl rfl rx rfl) ?_|refine WE_m rfl (zaq hty rfl rfl rfl d0 rs rfl) ?_|refine zad 0 rfl hK rfl rfl rfl ?_|(refine zhH (id:=9) ?_;refine zab (zfY (l:=[(0,_),(1,_),(2,_),(3,_),(9,_),(10,_)]) (bl:=[(9,_)]) ⟨(zz rfl rfl),(zz rfl rfl),(zz rfl rfl),(zz rfl rfl),(zz rfl rfl),(zz rfl rfl),trivial⟩ ⟨(zw rfl rfl),trivial⟩) ?_;refine zD (id:=9) zxk rfl (by kernel_rfl) ?_)|(refine zhH (id:=11) ?_;refine zab (zfY (l:=[(0,_),(1,_),(2,_),(3,_),(9,_),(10,_)]) (bl:=[(9,_)]) ⟨(zz rfl rfl),(zz rfl rfl),(zz rfl rfl),(zz rfl rfl),(zz rfl rfl),(zz rfl rfl),trivial⟩ ⟨(zw rfl rfl),trivial⟩) ?_;refine za ?_)|refine zv 0 rfl f1 rfl rfl rfl ?_|(refine zhH (id:=12) ?_;refine zab (zfY (l:=[(0,_),(1,_),(2,_),(3,_),(9,_),(10,_),(11,_)]) (bl:=[(9,_)]) ⟨(zz rfl rfl),(zz rfl rfl),(zz rfl rfl),(zz rfl rfl),(zz rfl rfl),(zz rfl rfl),(zz rfl rfl),trivial⟩ ⟨(zw rfl rfl),trivial⟩) ?_;refine zD (id:=12) zxy rfl (by kernel_rfl) ?_)|refine zad 231 rfl f2 rfl rfl rfl ?_|refine zad 0 rfl (zx0 _) rfl rfl rfl ?_|refine zad 0 rfl p1 rfl rfl rfl ?_|refine WE_m rfl (zwj (d:=some 137) hty 237 rfl rfl rfl rfl rfl rfl rfl (List.cons_ne_nil _ _) (by simp only[List.length_nil,List.length_cons];omega) rfl rfl rfl) ?_|refine WE_m rfl (zzi (d:=some 137) hty 237 rfl rfl rfl rfl rfl rfl rfl rfl (List.cons_ne_nil _ _) (by simp only[List.length_cons,List.length_nil,zeb];omega) rfl rfl rfl) ?_|refine zv 0 rfl (zx0 _) rfl rfl rfl ?_|refine zv 0 rfl p2 rfl rfl rfl ?_|(refine zhH (id:=14) ?_;refine zab (zfY (l:=[(0,_),(1,_),(2,_),(9,_),(10,_),(11,_),(13,_)]) (bl:=[(9,_),(13,_)]) ⟨(zz rfl rfl),(zz rfl rfl),(zz rfl rfl),(zz rfl rfl),(zz rfl rfl),(zz rfl rfl),(zz rfl rfl),trivial⟩ ⟨(zw rfl rfl),(zw rfl rfl),trivial⟩) ?_;refine zD (id:=14) zxD rfl (by kernel_rfl) ?_)|refine zad 0 rfl hck rfl rfl rfl ?_|(refine zhH (id:=16) ?_;refine zab (zfY (l:=[(0,_),(1,_),(2,_),(9,_),(11,_),(13,_)]) (bl:=[(9,_),(13,_)]) ⟨(zz rfl rfl),(zz rfl rfl),(zz rfl rfl),(zz rfl rfl),(zz rfl rfl),(zz rfl rfl),trivial⟩ ⟨(zw rfl rfl),(zw rfl rfl),trivial⟩) ?_;refine za ?_)|refine zv 0 rfl hroot rfl rfl rfl ?_|refine zv 0 rfl hdec rfl rfl rfl ?_|refine zv 0 rfl kt rfl rfl rfl ?_|refine zv 0 rfl hisr rfl rfl rfl ?_|refine zv 0 rfl hw rfl rfl rfl ?_|refine zu (.inl ⟨rfl,zI hty rfl rfl⟩) ?_|refine zu (.inl ⟨rfl,zm hty rfl rfl rfl (by assumption) rfl⟩) ?_|refine zaG rfl rfl ?_|refine zau rfl rfl rfl ?_|refine zav rfl rfl rfl ?_|refine zaw rfl rfl rfl ?_|refine zS ⟨by kernel_rfl,?_⟩|refine WL_p hty rfl rfl ?_|refine zh ?_|refine zi ?_|refine za ?_|refine ze ?_|refine zd rfl ?_|refine zbZ rfl ?_|refine zg ?_|refine zx rfl rfl ?_|refine zq rfl rfl rfl ?_|refine zot rfl rfl rfl ?_|refine zr rfl rfl rfl ?_|refine WL_m rfl (zm hty rfl rfl rfl (by assumption) rfl) ?_|refine zb rfl ?_|refine zj rfl rfl rfl rfl (fun _=>?_) (fun _=>?_)|refine zk rfl (fun _=>?_) (fun _=>?_)|refine zaC rfl rfl rfl rfl (fun _=>?_) (fun _=>?_))
  all_goals first
   |rfl
   |(exfalso;omega)
 |cons y pre=>
  simp only[List.length_cons]at hpl
  refine zo hty Tryz.func6 rfl rfl rfl fun w0=>?_
  repeat'(first|exact absurd rfl ‹_›|(exfalso;omega)|refine zv 0 rfl he rfl rfl rfl ?_|refine zv 0 rfl hv rfl rfl rfl ?_|refine zv 0 rfl hg rfl rfl rfl ?_|refine WL_m rfl (zx2 rfl zyX zy0 rfl) ?_|refine WL_m rfl (zx2 rfl zyZ zy2 rfl) ?_|refine WL_m rfl (zyW rfl rfl zn rfl) ?_|refine WL_m rfl (zyW rfl rfl zc rfl) ?_|(refine zhH (id:=4) ?_;refine zab (s':=⟨envOf [(0,sE env),(1,.int .i64 (kn:Int)),(2,.int .i64 c),(3,sT l)],bkOf []⟩) (zfY ⟨(zz rfl rfl),⟨_,rfl,zO ?_ rfl⟩,(zz rfl rfl),(zz rfl rfl),trivial⟩ trivial) ?_;exact congrArg (AV.int .i64) h1;refine za ?_)|(refine zhH (id:=8) ?_;refine zab (s':=⟨envOf [(0,sE env),(1,.int .i64 (kn:Int)),(2,.int .i64 (kc:Int)),(3,sT l),(9,.ptr 9 0)],bkOf [(9,.box (cB e.block))]⟩) (zfY ⟨(zz rfl rfl),(zz rfl rfl),⟨_,rfl,zO ?_ rfl⟩,(zz rfl rfl),(zz rfl rfl),trivial⟩ ⟨(zw rfl rfl),trivial⟩) ?_;exact congrArg (AV.int .i64) h2;refine zD (id:=8) zxo rfl (by kernel_rfl) ?_)|refine WL_m rfl (zm hty rfl rfl rfl re rfl) ?_|refine WL_m rfl (zm hty rfl rfl rfl rc rfl) ?_|refine WE_m rfl (zm hty rfl rfl rfl re rfl) ?_|refine WE_m rfl (zm hty rfl rfl rfl rc rfl) ?_|refine WE_m rfl (zm hty rfl rfl rfl rx rfl) ?_|refine WE_m rfl (zaq hty rfl rfl rfl d0 rs rfl) ?_|refine zad 0 rfl hK rfl rfl rfl ?_|(refine zhH (id:=9) ?_;refine zab (zfY (l:=[(0,_),(1,_),(2,_),(3,_),(9,_),(10,_)]) (bl:=[(9,_)]) ⟨(zz rfl rfl),(zz rfl rfl),(zz rfl rfl),(zz rfl rfl),(zz rfl rfl),(zz rfl rfl),trivial⟩ ⟨(zw rfl rfl),trivial⟩) ?_;refine zD (id:=9) zxk rfl (by kernel_rfl) ?_)|(refine zhH (id:=11) ?_;refine zab (zfY (l:=[(0,_),(1,_),(2,_),(3,_),(9,_),(10,_)]) (bl:=[(9,_)]) ⟨(zz rfl rfl),(zz rfl rfl),(zz rfl rfl),(zz rfl rfl),(zz rfl rfl),(zz rfl rfl),trivial⟩ ⟨(zw rfl rfl),trivial⟩) ?_;refine za ?_)|refine zv 0 rfl f1 rfl rfl rfl ?_|(refine zhH (id:=12) ?_;refine zab (zfY (l:=[(0,_),(1,_),(2,_),(3,_),(9,_),(10,_),(11,_)]) (bl:=[(9,_)]) ⟨(zz rfl rfl),(zz rfl rfl),(zz rfl rfl),(zz rfl rfl),(zz rfl rfl),(zz rfl rfl),(zz rfl rfl),trivial⟩ ⟨(zw rfl rfl),trivial⟩) ?_;refine zD (id:=12) zxy rfl (by kernel_rfl) ?_)|refine zad 231 rfl f2 rfl rfl rfl ?_|refine zad 0 rfl (zx0 _) rfl rfl rfl ?_|refine zad 0 rfl p1 rfl rfl rfl ?_|refine WE_m rfl (zwj (d:=some 137) hty 237 rfl rfl rfl rfl rfl rfl rfl (List.cons_ne_nil _ _) (by simp only[List.length_nil,List.length_cons];omega) rfl rfl rfl) ?_|refine WE_m rfl (zzi (d:=some 137) hty 237 rfl rfl rfl rfl rfl rfl rfl rfl (List.cons_ne_nil _ _) (by simp only[List.length_cons,List.length_nil,zeb];omega) rfl rfl rfl) ?_|refine zv 0 rfl (zx0 _) rfl rfl rfl ?_|refine zv 0 rfl p2 rfl rfl rfl ?_|(refine zhH (id:=14) ?_;refine zab (zfY (l:=[(0,_),(1,_),(2,_),(9,_),(10,_),(11,_),(13,_)]) (bl:=[(9,_),(13,_)]) ⟨(zz rfl rfl),(zz rfl rfl),(zz rfl rfl),(zz rfl rfl),(zz rfl rfl),(zz rfl rfl),(zz rfl rfl),trivial⟩ ⟨(zw rfl rfl),(zw rfl rfl),trivial⟩) ?_;refine zD (id:=14) zxD rfl (by kernel_rfl) ?_)|refine zad 0 rfl hck rfl rfl rfl ?_|(refine zhH (id:=16) ?_;refine zab (zfY (l:=[(0,_),(1,_),(2,_),(9,_),(11,_),(13,_)]) (bl:=[(9,_),(13,_)]) ⟨(zz rfl rfl),(zz rfl rfl),(zz rfl rfl),(zz rfl rfl),(zz rfl rfl),(zz rfl rfl),trivial⟩ ⟨(zw rfl rfl),(zw rfl rfl),trivial⟩) ?_;refine za ?_)|refine zv 0 rfl hroot rfl rfl rfl ?_|refine zv 0 rfl hdec rfl rfl rfl ?_|refine zv 0 rfl kt rfl rfl rfl ?_|refine zv 0 rfl hisr rfl rfl rfl ?_|refine zv 0 rfl hw rfl rfl rfl ?_|refine zu (.inl ⟨rfl,zI hty rfl rfl⟩) ?_|refine zu (.inl ⟨rfl,zm hty rfl rfl rfl (by assumption) rfl⟩) ?_|refine zaG rfl rfl ?_|refine zau rfl rfl rfl ?_|refine zav rfl rfl rfl ?_|refine zaw rfl rfl rfl ?_|refine zS ⟨by kernel_rfl,?_⟩|refine WL_p hty rfl rfl ?_|refine zh ?_|refine zi ?_|refine za ?_|refine ze ?_|refine zd rfl ?_|refine zbZ rfl ?_|refine zg ?_|refine zx rfl rfl ?_|refine zq rfl rfl rfl ?_|refine zot rfl rfl rfl ?_|refine zr rfl rfl rfl ?_|refine WL_m rfl (zm hty rfl rfl rfl (by assumption) rfl) ?_|refine zb rfl ?_|refine zj rfl rfl rfl rfl (fun _=>?_) (fun _=>?_)|refine zk rfl (fun _=>?_) (fun _=>?_)|refine zaC rfl rfl rfl rfl (fun _=>?_) (fun _=>?_))
  all_goals first
   |rfl
   |(exfalso;omega)
end Go.Proofs.YtoknnfhgoikpiaaGreat
