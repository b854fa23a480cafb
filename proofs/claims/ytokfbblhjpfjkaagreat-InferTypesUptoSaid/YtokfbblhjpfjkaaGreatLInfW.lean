/- How heavy a context is; traces alike to themselves; the layer's own waking. -/
import Derived.Test.YtokfbblhjpfjkaaGreatLWalkH
import Derived.Test.YtokfbblhjpfjkaaGreatGN
import Derived.Test.YtokfbblhjpfjkaaGreatGH
set_option linter.unusedSimpArgs false
set_option linter.unusedVariables false
namespace Go.Proofs.YtokfbblhjpfjkaaGreat
open Go.Aw Go.RowKit
def zF7:List (Nat×List Nat):=[(0,[]),(1,[]),(2,[0,1]),(3,[0,1,2]),(4,[]),(5,[]),(6,[4,5]),(7,[4,5,6]),(8,[0,1,2,3,4,5,6,7]),(9,[0,1,2,3,4,5,6,7,8])]
def zGh:List (Nat×List Nat):=[(0,[]),(1,[0]),(2,[0,1]),(3,[0,1,2]),(4,[0,1,2,3]),(5,[0,1,2,3,4]),(6,[0,1,2,3,4,5]),(7,[0,1,2,3,4,5,6]),(8,[0,1,2,3,4,5,6,7]),(9,[0,1,2,3,4,5,6,7,8]),(10,[0,1,2,3,4,5,6,7,8,9]),(11,[0,1,2,3,4,5,6,7,8,9,10]),(12,[0,1,2,3,4,5,6,7,8,9,10,11]),(13,[0,1,2,3,4,5,6,7,8,9,10,11,12]),(14,[0,1,2,3,4,5,6,7,8,9,10,11,12,13]),(15,[0,1,2,3,4,5,6,7,8,9,10,11,12,13,14]),(16,[0,1,2,3,4,5,6,7,8,9,10,11,12,13,14,15]),(17,[0,1,2,3,4,5,6,7,8,9,10,11,12,13,14,15]),(18,[0,1,2,3,4,5,6,7,8,9,10,11,12,13,14,15,17]),(19,[0,1,2,3,4,5,6,7,8,9,10,11,12,13,14,15]),(20,[0,1,2,3,4,5,6,7,8,9,10,11,12,13,14,15,17,18,19]),(21,[0,1,2,3,4,5,6,7,8,9,10,11,12,13,14,15,17,18,19,20]),(22,[0,1,2,3,4,5,6,7,8,9,10,11,12,13,14,15,17,18,19,20,21]),(23,[0,1,2,3,4,5,6,7,8,9,10,11,12,13,14,15,16,17,18,19,20,21,22]),(24,[0,1,2,3,4,5,6,7,8,9,10,11,12,13,14,15,16,17,18,19,20,21,22,23]),(25,[0,1,2,3,4,5,6,7,8,9,10,11,12,13,14,15,16,17,18,19,20,21,22,23,24]),(26,[0,1,2,3,4,5,6,7,8,9,10,11,12,13,14,15,16,17,18,19,20,21,22,23,24,25]),(27,[0,1,2,3,4,5,6,7,8,9,10,11,12,13,14,15,16,17,18,19,20,21,22,23,24,25,26]),(28,[0,1,2,3,4,5,6,7,8,9,10,11,12,13,14,15,16,17,18,19,20,21,22,23,24,25,26,27]),(29,[0,1,2,3,4,5,6,7,8,9,10,11,12,13,14,15,16,17,18,19,20,21,22,23,24,25,26,27,28])]
attribute [local irreducible] WL AC WD WE MStep OkOp
attribute [local irreducible] zfd zvN
def zGV(ctx:List Tm):Bool:=decide (50 <ctx.length)||zbk ctx
theorem zD0(ctx:List Tm)(h:sizes ctx≤1048576):FC Tryz.prog 32 [sT ctx] (.bool (zGV ctx)):=by
 have hr:=zeb ctx
 have hv:=zde ctx h
 unfold zGV
 by_cases hb:50 <ctx.length
 ·rw[decide_eq_true hb]
  refine zo hty Tryz.func32 rfl rfl rfl fun w0=>?_
  repeat'(first|(rename_i q;exact absurd hb (by omega))|refine WL_p hty rfl rfl ?_|refine zh ?_|refine zi ?_|refine za ?_|refine zg ?_|refine zot rfl rfl rfl ?_|refine zb rfl ?_|refine zj rfl rfl rfl rfl (fun _=>?_) (fun _=>?_))
  all_goals rfl
 ·rw[decide_eq_false hb]
  refine zo hty Tryz.func32 rfl rfl rfl fun w0=>?_
  repeat'(first|(rename_i q;exact absurd q (by omega))|refine zv 0 rfl hv rfl rfl rfl ?_|refine WL_p hty rfl rfl ?_|refine zh ?_|refine zi ?_|refine za ?_|refine zg ?_|refine zx rfl rfl ?_|refine zb rfl ?_|refine zj rfl rfl rfl rfl (fun _=>?_) (fun _=>?_))
  all_goals rfl
theorem zFk(l:List (List (List Int)))(h:l.length≤1048576)(hl: ∀ p,p∈l→p.length≤1048576∧ ∀ x,x∈p→x.length≤1048576):FC Tryz.prog 35 [sTr l,sTr l] (.bool true):=by
 refine zo hty Tryz.func35 rfl rfl rfl fun w0=>?_
 repeat'(first|exact absurd rfl ‹_›|refine WL_p hty rfl rfl ?_|refine zh ?_|refine zi ?_|refine za ?_|refine zf ?_|refine zxg ?_|refine zbZ rfl ?_|refine zj rfl rfl rfl rfl (fun _=>?_) (fun _=>?_))
 refine zW l.length (fun _=>True) (fun i=>⟨envOf [(0,sTr l),(1,sTr l),(5,.int .i64 (i:Nat))],bkOf []⟩) (zfY ⟨zz rfl rfl,zz rfl rfl,zz rfl rfl,trivial⟩ trivial) trivial ?_
 intro i hi _
 repeat'(first|refine WL_p hty rfl rfl ?_|refine zi ?_|refine za ?_)
 refine zj rfl rfl rfl rfl (fun hc=>?_) (fun hc=>?_)
 ·have hlt:i <l.length:=by rw[zDj]at hc;omega
  obtain⟨p,hpg,hpm⟩:=zA hlt
  have rp:(zCM l)[i]? =some [sP p]:=by rw[zCM,List.getElem?_map,hpg];rfl
  have hk:=zyY p (hl p hpm).1 (hl p hpm).2
  repeat'(first|refine zD (id:=6) zF7 rfl (by kernel_rfl) ?_|refine zad 0 rfl hk rfl rfl rfl ?_|refine zu (.inl ⟨rfl,zI hty rfl rfl⟩) ?_|refine zu (.inl ⟨rfl,zm hty rfl rfl rfl (by assumption) rfl⟩) ?_|refine zS ⟨by kernel_rfl,?_⟩|refine WL_p hty rfl rfl ?_|refine zh ?_|refine zi ?_|refine za ?_|refine zf ?_|refine zxg ?_|refine zd rfl ?_|refine zbZ rfl ?_)
  refine⟨hlt,trivial,(zfY ⟨zz rfl rfl,zz rfl rfl,⟨_,rfl,zO ?_ rfl⟩,trivial⟩ trivial)⟩
  exact congrArg (AV.int .i64) ((zy (by omega) (by omega)).trans (by omega))
 ·repeat'(first|refine WL_p hty rfl rfl ?_|refine zh ?_|refine zi ?_|refine za ?_|refine zbZ rfl ?_|refine zl ?_|refine zg ?_|refine zb rfl ?_)
  rfl
theorem iw1:zzQ [] [] (.mk 5 0 [.mk 2 0 [],.mk 1 0 []]) 9=(.mk 4 0 [.mk 2 0 [],.mk 2 0 []],[[]],0,0):=by kernel_rfl
theorem iw2:zzQ [] [] (.mk 6 0 [.mk 2 0 [],.mk 2 0 []]) 9=(zT,[],0,8):=by kernel_rfl
theorem iw3:ctxR [] []=0:=by kernel_rfl
set_option maxHeartbeats 4000000 in
theorem zDE:FC Tryz.prog 34 [] (.bool true):=by
 have nn: ∀ (es:Nat) (f g:Bool),Wk (.lst es [] f) (.lst 12 [] false):=fun _ _ _=>.nilF _ _ _
 have h1:=zCz [] [] (.mk 5 0 [.mk 2 0 [],.mk 1 0 []]) 9 (by decide) (by decide) (by simp[Tm.size,sizes])
 rw[iw1]at h1
 have h2:=zCz [] [] (.mk 6 0 [.mk 2 0 [],.mk 2 0 []]) 9 (by decide) (by decide) (by simp[Tm.size,sizes])
 rw[iw2]at h2
 have h3:=zFU [] [] (by decide) (by decide)
 rw[iw3]at h3
 dsimp only[zF6]at h1 h2
 replace h1:=fun(e1 e2:Nat) (f1 f2:Bool)=>h1.args (xs:=[.lst e1 [] f1,.lst e2 [] f2,aT (.mk 5 0 [.mk 2 0 [],.mk 1 0 []]),.int .i64 9]) (.cons (.nilF _ _ _) (.cons (.nilF _ _ _) (.cons (.refl _) (.cons (.refl _) .nil))))
 replace h2:=fun(e1 e2:Nat) (f1 f2:Bool)=>h2.args (xs:=[.lst e1 [] f1,.lst e2 [] f2,aT (.mk 6 0 [.mk 2 0 [],.mk 2 0 []]),.int .i64 9]) (.cons (.nilF _ _ _) (.cons (.nilF _ _ _) (.cons (.refl _) (.cons (.refl _) .nil))))
 replace h3:=fun(e1 e2:Nat) (f1 f2:Bool)=>h3.args (xs:=[.lst e1 [] f1,.lst e2 [] f2]) (.cons (.nilF _ _ _) (.cons (.nilF _ _ _) .nil))
 have kT:=zpx (.mk 4 0 [.mk 2 0 [],.mk 2 0 []]) (by simp[Tm.size,sizes])
 have u0:=zmG 0
 have v0:=ztY 0
 have t1:=rt2 5 (.mk 2 0 []) (.mk 1 0 [])
 have t2:=rt2 6 (.mk 2 0 []) (.mk 2 0 [])
 have t3:=rt2 4 (.mk 2 0 []) (.mk 2 0 [])
 refine zo hty Tryz.func34 rfl rfl rfl fun w0=>?_
 repeat'(first|exact absurd rfl ‹_›|refine WL_m rfl (zct 0 rfl rfl rfl u0 rfl rfl rfl) ?_|refine zv 0 rfl v0 rfl rfl rfl ?_|refine zv 0 rfl t1 rfl rfl rfl ?_|refine zv 0 rfl t2 rfl rfl rfl ?_|refine zv 0 rfl (h1 _ _ _ _) rfl rfl rfl ?_|refine zv 0 rfl (h2 _ _ _ _) rfl rfl rfl ?_|(refine zhH (id:=3) ?_;refine zab (zfY (l:=[(1,_),(2,_),(3,_),(4,_),(5,_)]) (bl:=[(2,_)]) ⟨zz rfl rfl,zz rfl rfl,zz rfl rfl,zz rfl rfl,zz rfl rfl,trivial⟩ ⟨zw rfl rfl,trivial⟩) ?_;refine za ?_)|(refine zhH (id:=4) ?_;refine zab (zfY (l:=[(1,_),(2,_),(3,_),(4,_),(5,_),(9,_)]) (bl:=[(2,_)]) ⟨zz rfl rfl,zz rfl rfl,zz rfl rfl,zz rfl rfl,zz rfl rfl,zz rfl rfl,trivial⟩ ⟨zw rfl rfl,trivial⟩) ?_;refine zD (id:=4) zGh rfl (by kernel_rfl) ?_)|refine zu (.inl ⟨rfl,zct 0 rfl rfl rfl u0 rfl rfl rfl⟩) ?_|refine zad 0 rfl t3 rfl rfl rfl ?_|refine zad 0 rfl kT rfl rfl rfl ?_|refine zad 0 rfl (h3 _ _ _ _) rfl rfl rfl ?_|refine zu (.inl ⟨rfl,zI hty rfl rfl⟩) ?_|refine zaG rfl rfl ?_|refine zS ⟨by kernel_rfl,?_⟩|refine WL_p hty rfl rfl ?_|refine zh ?_|refine zi ?_|refine za ?_|refine zg ?_|refine zb rfl ?_|refine zaC rfl rfl rfl rfl (fun _=>?_) (fun _=>?_))
 all_goals rfl
theorem zG3(f:Bool):FC Tryz.prog 22 [aT zT,.agg [.int .i64 0,.int .i64 0,.lst 3 [] f]] (.bool true):=(zpx zT (by decide)).args (.cons (.refl _) (.cons (zCj _) .nil))
theorem zCU{env:List En}{ctx:List Tm}{t:Tm}{F:Int}(hE:zbJ env≤1048576):(zzQ env ctx t F).1.size≤20000∧(zzQ env ctx t F).2.1.length≤24000∧zHb (zzQ env ctx t F).2.1:=by
 by_cases hA:zC5 env ctx t F=0
 case neg=>
  rw[zC1 hA]
  exact⟨(show zT.size≤20000 by decide),by simp,fun x q=>by cases q⟩
 obtain⟨g1,g2,g3,g4,g5⟩:=zEg hA
 have hlk:=zuW env hE
 rw[g1]at hlk
 rw[zCr hA]
 split
 ·exact⟨(show zT.size≤20000 by decide),by simp,fun x q=>by cases q⟩
 ·obtain⟨hl,hcs⟩:=zEh g2
  have sz:=zDX (zFl (lookR env)) (fun e he=>(zFm g1 e he).1) t.size ctx t (0,(F,0,[])) (Nat.le_refl _) (fun _=>hcs.right) g3
  obtain⟨⟨_,_,_,o4⟩,c⟩:=zGf (zGt hlk) (env:=env) t.size ctx t g3 (Nat.le_refl _) (0,(F,0,[])) ⟨g4,Int.le_refl 0,by show F+0≤_;omega,fun x q=>by cases q⟩
  have hs:=(zcH g3).1
  exact⟨sz,by have c:(typW (burnT (lookR env)) env t.size ctx t (0,(F,0,[]))).2.2.2.2.length≤0+4*t.size:=c;show(typW (burnT (lookR env)) env t.size ctx t (0,(F,0,[]))).2.2.2.2.length≤_;omega,o4⟩
theorem zGw{l:List (List (List Int))}{i:Nat}{p:List (List Int)}(h:l[i]? =some p):zB3 (l.take (i+1))=zB3 (l.take i)+(p.length:Nat):=by
 rw[List.take_add_one,h,Option.toList_some,zCg];simp[zB3]
theorem zDi: ∀ l:List (List (List Int)),0≤zB3 l
 |[]=>by simp[zB3]
 |p::l=>by
  have:=zDi l
  simp only[zB3,List.map_cons,List.foldr_cons]at this⊢;omega
theorem zGJ(l:List (List (List Int)))(i:Nat):zB3 (l.take i)≤zB3 l:=by
 conv=>rhs;rw[←List.take_append_drop i l]
 rw[zCg]
 have:=zDi (l.drop i)
 omega
end Go.Proofs.YtokfbblhjpfjkaaGreat
