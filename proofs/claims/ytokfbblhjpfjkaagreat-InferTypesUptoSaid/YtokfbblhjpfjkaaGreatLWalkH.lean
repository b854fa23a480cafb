/- Is a context right? The type of a term, by fuel: infer.Right, Ctx, Infer. -/
import Derived.Test.YtokfbblhjpfjkaaGreatLWalkG
import Derived.Test.YtokfbblhjpfjkaaGreatLInferF
import Derived.Test.YtokfbblhjpfjkaaGreatGJ
set_option linter.unusedSimpArgs false
set_option linter.unusedVariables false
namespace Go.Proofs.YtokfbblhjpfjkaaGreat
open Go.Aw Go.RowKit
def zCq:List (Nat×List Nat):=[(0,[]),(1,[100008]),(2,[1,100008]),(3,[1,2,100008]),(4,[1,2,3,100008]),(5,[100008]),(6,[5,100008]),(7,[5,6,100008]),(8,[5,6,7,100008]),(9,[0]),(10,[0,1,2,3,4,9]),(11,[0,1,2,3,4,5,6,7,8,9,10]),(12,[0,1,2,3,4,5,6,7,8,9,10,11])]
attribute [local irreducible] WL AC WD WE MStep OkOp
theorem zHy{env:List En}{ctx:List Tm}{i:Nat}{a:Tm}(hl: ¬40 <(ctx.length:Int))(ha:ctx[i]? =some a)(hs:zcY a (i:Nat) (env.length:Nat)=false):zDa env ctx=6:=by
 unfold zDa
 rw[if_neg hl,if_neg]
 intro q
 have hi:=(List.getElem?_eq_some_iff.1 ha).1
 have:=List.all_eq_true.1 q i (List.mem_range.2 hi)
 rw[List.getD_eq_getElem?_getD,ha]at this
 simp only[Option.getD_some]at this
 rw[hs]at this;cases this
theorem zHl{env:List En}{ctx:List Tm}(hl: ¬40 <(ctx.length:Int))(h: ∀ (i:Nat) a,ctx[i]? =some a→zcY a (i:Nat) (env.length:Nat)=true):zDa env ctx=0:=by
 unfold zDa
 rw[if_neg hl,if_pos]
 refine List.all_eq_true.2 fun i hi=>?_
 have hi:=List.mem_range.1 hi
 obtain⟨a,ha,_⟩:=zA hi
 rw[List.getD_eq_getElem?_getD,ha]
 exact h i a ha
theorem zFK(env:List En)(ctx:List Tm)(hE:zbJ env≤1048576)(hx:sizes ctx≤1048576):FC Tryz.prog 98 [sE env,sT ctx] (.int .i64 (zDa env ctx)):=by
 have hlen:=zM ctx
 have hr:=zeb ctx
 have hre:=zaW env
 by_cases hb:40 <(ctx.length:Int)
 ·have he:zDa env ctx=13:=by unfold zDa;rw[if_pos hb]
  rw[he]
  refine zo hty Tryz.func98 rfl rfl rfl fun w0=>?_
  repeat'(first|(rename_i hc;exact absurd hb (by omega))|refine WL_p hty rfl rfl ?_|refine zh ?_|refine zi ?_|refine za ?_|refine zd rfl ?_|refine zg ?_|refine zj rfl rfl rfl rfl (fun _=>?_) (fun _=>?_))
  all_goals exact zaQ rfl rfl
 ·refine zo hty Tryz.func98 rfl rfl rfl fun w0=>?_
  repeat'(first|(rename_i hc;exact absurd hc (by omega))|refine WL_p hty rfl rfl ?_|refine zh ?_|refine zi ?_|refine za ?_|refine zf ?_|refine zxg ?_|refine zbZ rfl ?_|refine zj rfl rfl rfl rfl (fun _=>?_) (fun _=>?_))
  refine zW ctx.length (fun i=> ∀ j,j <i→ ∀ a,ctx[j]? =some a→zcY a (j:Nat) (env.length:Nat)=true) (fun i=>⟨envOf [(0,sE env),(10,sT ctx),(11,.int .i64 ((rsT ctx).length:Nat)),(12,.int .i64 (i:Nat))],bkOf []⟩)
   (zfY ⟨zz rfl rfl,zz rfl rfl,zz rfl rfl,zz rfl rfl,trivial⟩ trivial) (fun j hj=>by omega) ?_
  intro i hi hI
  repeat'(first|refine zi ?_|refine za ?_)
  refine zj rfl rfl rfl rfl (fun hc=>?_) (fun hc=>?_)
  ·have hlt:i <ctx.length:=by omega
   obtain⟨a,ha,hmem⟩:=zA hlt
   have ra:=zac ha
   have has:=zK hmem
   have hsc:=zfe a (i:Nat) ((rsE env).length:Nat) (by omega)
   rw[hre]at hsc
   have hsc2:FC Tryz.prog 41 [aT a,.int .i64 (i:Nat),.int .i64 ((rsE env).length:Nat)] (.bool (zcY a (i:Nat) (env.length:Nat))):=by rw[hre];exact hsc
   cases hq:zcY a (i:Nat) (env.length:Nat)with
   |true=>
    rw[hq]at hsc2
    repeat'(first|refine zv 0 rfl hsc2 rfl rfl rfl ?_|refine WL_p hty rfl rfl ?_|refine zh ?_|refine zi ?_|refine za ?_|refine zf ?_|refine zxg ?_|refine zd rfl ?_|refine zbZ rfl ?_|refine WL_m rfl (zm hty rfl rfl rfl (by assumption) rfl) ?_)
    refine⟨hlt,fun j hj b hb2=>?_,(zfY ⟨zz rfl rfl,zz rfl rfl,zz rfl rfl,⟨_,rfl,zO ?_ rfl⟩,trivial⟩ trivial)⟩
    ·by_cases e:j=i
     ·subst e
      rw[ha]at hb2
      obtain rfl:=Option.some.inj hb2
      exact hq
     ·exact hI j (by omega) b hb2
    ·exact congrArg (AV.int .i64) ((zy (by omega) (by omega)).trans (by omega))
   |false=>
    rw[hq]at hsc2
    have hz:=zHy hb ha hq
    rw[hz]
    repeat'(first|refine zv 0 rfl hsc2 rfl rfl rfl ?_|refine WL_p hty rfl rfl ?_|refine zh ?_|refine zi ?_|refine za ?_|refine zf ?_|refine zxg ?_|refine zd rfl ?_|refine zg ?_|refine WL_m rfl (zm hty rfl rfl rfl (by assumption) rfl) ?_)
    all_goals exact zaQ rfl rfl
  ·obtain rfl:i=ctx.length:=by omega
   rw[zHl hb fun j a ha=>hI j ((List.getElem?_eq_some_iff.1 ha).1) a ha]
   repeat'(first|refine WL_p hty rfl rfl ?_|refine zh ?_|refine zi ?_|refine za ?_|refine zbZ rfl ?_|refine zl ?_|refine zg ?_)
   all_goals exact zaQ rfl rfl
def ctxR(env:List En)(ctx:List Tm):Int:=if envI env≠0 then envI env else zDa env ctx
theorem zFU(env:List En)(ctx:List Tm)(hE:zbJ env≤1048576)(hx:sizes ctx≤1048576):FC Tryz.prog 58 [sE env,sT ctx] (.int .i64 (ctxR env ctx)):=by
 have h1:=zsy env hE
 have h2:=zFK env ctx hE hx
 unfold ctxR
 by_cases h0:envI env=0
 ·rw[if_neg (fun q=>q h0)]
  rw[h0]at h1
  refine zo hty Tryz.func58 rfl rfl rfl fun w0=>?_
  repeat'(first|exact absurd rfl ‹_›|refine zv 0 rfl h1 rfl rfl rfl ?_|refine zv 0 rfl h2 rfl rfl rfl ?_|refine WL_p hty rfl rfl ?_|refine zh ?_|refine zi ?_|refine za ?_|refine zxg ?_|refine zbZ rfl ?_|refine zg ?_|refine zj rfl rfl rfl rfl (fun _=>?_) (fun _=>?_))
  all_goals exact zaQ rfl rfl
 ·rw[if_pos h0]
  refine zo hty Tryz.func58 rfl rfl rfl fun w0=>?_
  repeat'(first|exact absurd h0 (by assumption)|refine zv 0 rfl h1 rfl rfl rfl ?_|refine WL_p hty rfl rfl ?_|refine zh ?_|refine zi ?_|refine za ?_|refine zd rfl ?_|refine zg ?_|refine zj rfl rfl rfl rfl (fun _=>?_) (fun _=>?_))
  all_goals exact zaQ rfl rfl
theorem zHg{env:List En}(i a b c:Nat)(s:Tk):zDS 2 i [a,b,c] [none,none,none] [tkA env s 2,tkB s 2,tkC s]=[(i,tkC s),(a,tkA env s i),(b,.gone),(c,.gone)]:=by
 simp only[tkA,tkB,tkC]
 cases zCM s.2.2 <;>rfl
abbrev zF6(r:Tm×List (List (List Int))×Int×Int):AV:=.tup [aT r.1,sTr r.2.1,.int .i64 r.2.2.1,.int .i64 r.2.2.2]
set_option maxHeartbeats 4000000 in
theorem zCz(env:List En)(ctx:List Tm)(t:Tm)(fuel:Int)(hE:zbJ env≤1048576)(hx:sizes ctx≤1048576)(ht:t.size≤1048576):
 FC Tryz.prog 33 [sE env,sT ctx,aT t,.int .i64 fuel] (zF6 (zzQ env ctx t fuel)):=by
 have h1:=zFU env ctx hE hx
 have h2:=zb2 t ht
 by_cases hA:zC5 env ctx t fuel=0
 case neg=>
  rw[zC1 hA]
  unfold zC5 at hA⊢
  by_cases hC:ctxR env ctx=0
  ·have hC':=hC
   unfold ctxR at hC
   have g1:envI env=0:=Classical.byContradiction fun q=>by rw[if_pos q]at hC;exact q hC
   rw[if_neg (fun q=>q g1)]at hC
   rw[hC']at h1
   rw[if_neg (fun q=>q g1),if_neg (fun q=>q hC)]at hA⊢
   by_cases hT:checkT t=0
   ·rw[hT]at h2
    rw[if_neg (fun q=>q hT)]at hA⊢
    by_cases hF:fuel <0∨65536 <fuel
    ·rw[if_pos hF]
     refine zo hty Tryz.func33 rfl rfl rfl fun w0=>?_
     repeat'(first|exact absurd rfl ‹_›|(refine zhH (id:=8) ?_;exfalso;omega)|refine zv 0 rfl h1 rfl rfl rfl ?_|refine zv 0 rfl h2 rfl rfl rfl ?_|refine WL_p hty rfl rfl ?_|refine zh ?_|refine zi ?_|refine za ?_|refine zxg ?_|refine zd rfl ?_|refine zbZ rfl ?_|refine zg ?_|refine zx rfl rfl ?_|refine zot rfl rfl rfl ?_|refine zj rfl rfl rfl rfl (fun _=>?_) (fun _=>?_))
     all_goals first
      |exact zH rfl rfl (.tup (.cons (zCj _) (.cons (.nilF _ _ _) (.cons (.refl _) (.cons (.refl _) .nil)))))
      |(exfalso;omega)
    ·rw[if_neg hF]at hA;exact absurd rfl hA
   ·rw[if_pos hT]
    refine zo hty Tryz.func33 rfl rfl rfl fun w0=>?_
    repeat'(first|exact absurd rfl ‹_›|exact absurd (by assumption) hT|exact absurd hT (by assumption)|refine zv 0 rfl h1 rfl rfl rfl ?_|refine zv 0 rfl h2 rfl rfl rfl ?_|refine WL_p hty rfl rfl ?_|refine zh ?_|refine zi ?_|refine za ?_|refine zxg ?_|refine zd rfl ?_|refine zbZ rfl ?_|refine zg ?_|refine zq rfl rfl rfl ?_|refine zr rfl rfl rfl ?_|refine zj rfl rfl rfl rfl (fun _=>?_) (fun _=>?_))
    all_goals exact zH rfl rfl (.tup (.cons (zCj _) (.cons (.nilF _ _ _) (.cons (.refl _) (.cons (.refl _) .nil)))))
  ·have he:(if envI env≠0 then envI env else if zDa env ctx≠0 then zDa env ctx else if checkT t≠0 then checkT t else if fuel <0∨65536 <fuel then(1:Int)else 0)=ctxR env ctx:=by
    unfold ctxR at hC⊢
    by_cases g1:envI env=0
    ·rw[if_neg (fun q=>q g1)]at hC⊢
     rw[if_pos hC,if_neg (fun q=>q g1)]
    ·rw[if_pos g1,if_pos g1]
   rw[he]
   generalize ctxR env ctx=e at h1 hC⊢
   refine zo hty Tryz.func33 rfl rfl rfl fun w0=>?_
   repeat'(first|exact absurd (by assumption) hC|exact absurd hC (by assumption)|refine zv 0 rfl h1 rfl rfl rfl ?_|refine WL_p hty rfl rfl ?_|refine zh ?_|refine zi ?_|refine za ?_|refine zxg ?_|refine zd rfl ?_|refine zbZ rfl ?_|refine zg ?_|refine zq rfl rfl rfl ?_|refine zr rfl rfl rfl ?_|refine zj rfl rfl rfl rfl (fun _=>?_) (fun _=>?_))
   all_goals exact zH rfl rfl (.tup (.cons (zCj _) (.cons (.nilF _ _ _) (.cons (.refl _) (.cons (.refl _) .nil)))))
 obtain⟨g1,g2,g3,g4,g5⟩:=zEg hA
 have hC:ctxR env ctx=0:=by unfold ctxR;rw[if_neg (fun q=>q g1)];exact g2
 rw[hC]at h1
 rw[g3]at h2
 have hlk:=zuW env hE
 rw[g1]at hlk
 obtain⟨hl,hcs⟩:=zEh g2
 have h3:=zGz (zGt hlk) (zFl (lookR env)) (fun e he=>(zFm g1 e he).1) zGE (ctx:=ctx) (t:=t) (s:=(fuel,0,[])) g3 hcs.right hl ⟨g4,Int.le_refl 0,by show fuel+0≤_;omega,fun x q=>by cases q⟩ (by show 0+_≤_;have:=(zcH g3).1;omega)
 have hr:zzQ env ctx t fuel=if(workW (burnT (lookR env)) env ctx t (fuel,0,[])).2.1≠0 then(zT,[],0,(workW (burnT (lookR env)) env ctx t (fuel,0,[])).2.1)else
  ((workW (burnT (lookR env)) env ctx t (fuel,0,[])).1,(workW (burnT (lookR env)) env ctx t (fuel,0,[])).2.2.2.2,(workW (burnT (lookR env)) env ctx t (fuel,0,[])).2.2.2.1,0):=by
  unfold zzQ
  exact if_neg (fun q=>q hA)
 rw[hr]
 generalize workW (burnT (lookR env)) env ctx t (fuel,0,[])=r at h3⊢
 obtain⟨x,e,s'⟩:=r
 have ef:=zHg (env:=env) 1044 37 900 901 s'
 dsimp only at h3⊢
 by_cases h0:e=0
 ·subst h0
  rw[if_neg (fun q=>q rfl)]
  obtain⟨l',u',tr⟩:=s'
  simp only[tkA,tkB,tkC]at ef h3
  simp only[zF6,sTr]
  rcases hrr:zCM tr with _|⟨r0,rs⟩
  all_goals
   rw[hrr]at ef h3
   refine zo hty Tryz.func33 rfl rfl rfl fun w0=>?_
   repeat'(first|exact absurd rfl ‹_›|(exfalso;omega)|(refine zhH (id:=8) ?_;refine zab (zfY (l:=[(0,_),(1,_),(3,_),(6,_),(8,_),(11,_)]) (bl:=[(6,_),(8,_)]) ⟨zz rfl rfl,zz rfl rfl,zz rfl rfl,zz rfl rfl,zz rfl rfl,zz rfl rfl,trivial⟩ ⟨zw rfl rfl,zw rfl rfl,trivial⟩) ?_;refine za ?_)|(refine zhH (id:=9) ?_;refine zab (zC9 900 rfl) ?_;refine zab (zC9 901 rfl) ?_;refine za ?_)|(refine zhH (id:=12) ?_;refine zD (id:=12) zCq rfl (by kernel_rfl) ?_)|refine zv 0 rfl h1 rfl rfl rfl ?_|refine zv 0 rfl h2 rfl rfl rfl ?_|refine WL_m rfl (znY rfl rfl rfl) ?_|refine WL_m rfl (zDR [37,900,901] 1044 [none,none,none] (ks:=[.bx none [sE env,.int .i64 fuel,.int .i64 0,.lst 1 [] true],.gone,.gone]) ⟨rfl,rfl,rfl,trivial⟩ rfl rfl h3 rfl rfl rfl ef rfl) ?_|refine zu (.inl ⟨rfl,zI hty rfl rfl⟩) ?_|refine zS ⟨by kernel_rfl,?_⟩|refine WL_p hty rfl rfl ?_|refine zh ?_|refine zi ?_|refine za ?_|refine zxg ?_|refine zd rfl ?_|refine zbZ rfl ?_|refine zg ?_|refine zx rfl rfl ?_|refine zj rfl rfl rfl rfl (fun _=>?_) (fun _=>?_))
  ·exact zH rfl rfl (.tup (.cons (.refl _) (.cons (.nilF _ _ _) (.cons (.refl _) (.cons (.refl _) .nil)))))
  ·exact zbm (zaF 1044 rfl) (zH rfl rfl (.refl _))
 ·rw[if_pos h0]
  obtain⟨l',u',tr⟩:=s'
  simp only[tkA,tkB,tkC]at ef
  refine zo hty Tryz.func33 rfl rfl rfl fun w0=>?_
  repeat'(first|exact absurd rfl ‹_›|exact absurd h0 (by assumption)|(exfalso;omega)|(refine zhH (id:=8) ?_;refine zab (zfY (l:=[(0,_),(1,_),(3,_),(6,_),(8,_),(11,_)]) (bl:=[(6,_),(8,_)]) ⟨zz rfl rfl,zz rfl rfl,zz rfl rfl,zz rfl rfl,zz rfl rfl,zz rfl rfl,trivial⟩ ⟨zw rfl rfl,zw rfl rfl,trivial⟩) ?_;refine za ?_)|(refine zhH (id:=9) ?_;refine zab (zC9 900 rfl) ?_;refine zab (zC9 901 rfl) ?_;refine za ?_)|refine zv 0 rfl h1 rfl rfl rfl ?_|refine zv 0 rfl h2 rfl rfl rfl ?_|refine WL_m rfl (znY rfl rfl rfl) ?_|refine WL_m rfl (zDR [37,900,901] 1044 [none,none,none] (ks:=[.bx none [sE env,.int .i64 fuel,.int .i64 0,.lst 1 [] true],.gone,.gone]) ⟨rfl,rfl,rfl,trivial⟩ rfl rfl h3 rfl rfl rfl ef rfl) ?_|refine WL_p hty rfl rfl ?_|refine zh ?_|refine zi ?_|refine za ?_|refine zxg ?_|refine zd rfl ?_|refine zbZ rfl ?_|refine zg ?_|refine zx rfl rfl ?_|refine zj rfl rfl rfl rfl (fun _=>?_) (fun _=>?_))
  exact zH rfl rfl (.tup (.cons (zCj _) (.cons (.nilF _ _ _) (.cons (.refl _) (.cons (.refl _) .nil)))))
end Go.Proofs.YtokfbblhjpfjkaaGreat
