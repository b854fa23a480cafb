/- What makes terms normal, as the program has it: a function value, with blocks of -/
import Derived.Test.YtokfbblhjpfjkaaGreatLInferD
import Derived.Test.YtokfbblhjpfjkaaGreatLInferS
import Derived.Test.YtokfbblhjpfjkaaGreatGG
import Derived.Test.YtokfbblhjpfjkaaGreatGQ
set_option linter.unusedSimpArgs false
set_option linter.unusedVariables false
namespace Go.Proofs.YtokfbblhjpfjkaaGreat
open Go.Aw Go.RowKit
abbrev wC(nf:AV)(env:List En)(e:Int):List AV:=[sE env,nf,.int .i64 e]
structure LN {σ:Type} (N:σ→Tm→Tm×Int×σ) (nf:AV) (tA tB:σ→Nat→AB) (tC:σ→AB) (ok:σ→Prop) (cnt:σ→Nat):Prop where
 keep: ∀ s t,ok s→ok (N s t).2.2
 more: ∀ s t,cnt (N s t).2.2≤cnt s+1
 liveA: ∀ s s',(tA s 2).live=(tA s' 2).live
 liveB: ∀ s s',(tB s 2).live=(tB s' 2).live
 lend3: ∀ (blk:Bk) s c,lendL blk [0,1,c+2] [tA s (c+2),tB s (c+2),tC s]=some [tA s 2,tB s 2,tC s]
 lend4: ∀ (blk:Bk) s c d,lendL blk [0,1,c+2,d] [tA s (c+2),tB s (c+2),tC s]=some [tA s 2,tB s 2,tC s]
 lendF: ∀ (blk:Bk) c d,lendV blk [0,1,c+2,d] nf=some nf
 back3: ∀ s c,backB [0,1,c] (tA s 2)=tA s c∧backB [0,1,c] (tB s 2)=tB s c∧backB [0,1,c] (tC s)=tC s
 back4: ∀ s c d,backB [0,1,c,d] (tA s 2)=tA s c∧backB [0,1,c,d] (tB s 2)=tB s c∧backB [0,1,c,d] (tC s)=tC s
 backF: ∀ c d,backV [0,1,c,d] nf=nf
 good: ∀ s env e,goodL [tA s 2,tB s 2,tC s,.bx none (wC nf env e)]=true
 fn: ∃ F xi xa,nf=.fn (.func F) xi xa∧(∀ c,lend0s [0,1,c+2] xi=some xi)∧(∀ c,lend0s [0,1,c+2] xa=some xa)∧
  ∀ s t,ok s→cnt s≤4000000→t.size≤1048576→MV Tryz.prog 2 F (xi++[aT t]++xa) [tA s 2,tB s 2,tC s] (.tup [aT (N s t).1,.int .i64 (N s t).2.1]) [tA (N s t).2.2 2,tB (N s t).2.2 2,tC (N s t).2.2]
section
variable {σ:Type} {N:σ→Tm→Tm×Int×σ} {nf:AV} {tA tB:σ→Nat→AB} {tC:σ→AB} {ok:σ→Prop} {cnt:σ→Nat} {env:List En}
abbrev KS(nf:AV)(tA tB:σ→Nat→AB)(tC:σ→AB)(env:List En)(w:WS σ):List AB:=[tA w.2 2,tB w.2 2,tC w.2,.bx none (wC nf env w.1)]
abbrev bkW(nf:AV)(tA tB:σ→Nat→AB)(tC:σ→AB)(env:List En)(B0 B1 B3:BI)(w:WS σ):Bk:=bkOf [(0,pinAB (some B0) (tA w.2 2)),(1,pinAB (some B1) (tB w.2 2)),(2,pinAB none (tC w.2)),(3,.bx (some B3) (wC nf env w.1))]
def zHt(nf:AV)(tA tB:σ→Nat→AB)(tC:σ→AB)(env:List En)(ty:Ty)(rs:List ResultVar)(res:AV)(B0 B1 B3:BI)(w2:WS σ)(e:Exit)(s':AS):Prop:=
 (e=.ret∨e=.normal)∧ ∃ s2,Less s' s2∧ ∃ c,zCb [0,1,c+2,3]=true∧s2.blk 0=some (pinAB (some B0) (tA w2.2 (c+2)))∧s2.blk 1=some (pinAB (some B1) (tB w2.2 (c+2)))∧s2.blk (c+2)=some (pinAB none (tC w2.2))∧
   s2.blk 3=some (.bx (some B3) (wC nf env w2.1))∧ ∃ vs,resL ty s2 rs=some vs∧ ∃ x,packL s2.blk vs=some x∧Wk x res
theorem zAU{ty:Ty}{s':AS}{rs:List ResultVar}{vs:List AV}{x res:AV}{B0 B1 B3:BI}{w2:WS σ}(c:Nat)(hn:zCb [0,1,c+2,3]=true)(k0:s'.blk 0=some (pinAB (some B0) (tA w2.2 (c+2))))(k1:s'.blk 1=some (pinAB (some B1) (tB w2.2 (c+2))))
 (k2:s'.blk (c+2)=some (pinAB none (tC w2.2))) (k3:s'.blk 3=some (.bx (some B3) (wC nf env w2.1))) (h:resL ty s' rs=some vs) (hp:packL s'.blk vs=some x) (hx:Wk x res):zHt nf tA tB tC env ty rs res B0 B1 B3 w2 .ret s':=
 ⟨.inl rfl,_,.refl _,c,hn,k0,k1,k2,k3,vs,h,x,hp,hx⟩
theorem zHc{blk:Bk}{c:Nat}{p0 p1 p2 p3:Option BI}{k0 k1 k2 k3:AB}(h0:blk 0=some (pinAB p0 k0))(h1:blk 1=some (pinAB p1 k1))(h2:blk c=some (pinAB p2 k2))(h3:blk 3=some (pinAB p3 k3)):lookL blk [0,1,c,3] [p0,p1,p2,p3] [k0,k1,k2,k3]:=⟨h0,h1,h2,h3,trivial⟩
variable (hN:LN N nf tA tB tC ok cnt)
include hN
theorem LN.lendW{blk:Bk}{c:Nat}(hc:zCb [0,1,c+2,3]=true)(w:WS σ):lendL blk [0,1,c+2,3] [tA w.2 (c+2),tB w.2 (c+2),tC w.2,.bx none (wC nf env w.1)]=some (KS nf tA tB tC env w):=by
 have h:=hN.lend4 blk w.2 c 3
 have hE:lendV blk [0,1,c+2,3] (sE env)=some (sE env):=rfl
 have hI:lendV blk [0,1,c+2,3] (.int .i64 w.1)=some (.int .i64 w.1):=rfl
 have h3:lendB blk [0,1,c+2,3] (.bx none (wC nf env w.1))=some (.bx none (wC nf env w.1)):=by
  simp only[lendB,zCQ,hE,hI,hN.lendF]
 simp only[lendL]at h⊢
 rw[h3]
 generalize lendB blk [0,1,c+2,3] (tA w.2 (c+2))=x at h⊢
 generalize lendB blk [0,1,c+2,3] (tB w.2 (c+2))=y at h⊢
 generalize lendB blk [0,1,c+2,3] (tC w.2)=z at h⊢
 cases x <;>cases y <;>cases z <;>first
  |(simp at h;done)
  |(simp at h;obtain⟨rfl,rfl,rfl⟩:=h;rfl)
theorem zzj{f:Nat}{fn:Func}{c:Code}{args:List AV}{res:AV}{w w2:WS σ}(hf:Tryz.prog.funcs[f]? =some fn)(hb:fn.body=some c)(hname:(fn.name=="runtime.NumGoroutine")=false)(hn:Nat.ble args.length fn.ntmps=true)
 (h: ∀ (w0:B0) (B0 B1 B3:BI),AC Tryz.prog w0 fn.ntmps c ⟨fun t=>args[t]?,bkW nf tA tB tC env B0 B1 B3 w⟩ (zHt nf tA tB tC env ty fn.results.toList res B0 B1 B3 w2)):
 MV Tryz.prog 2 f args (KS nf tA tB tC env w) res (KS nf tA tB tC env w2):=by
 refine zFA hty hf hb hname hn (hN.good _ _ _) rfl rfl ?_ fun w0 Bs hl=>?_
 ·show[(tA w2.2 2).live,(tB w2.2 2).live,true,true]=[(tA w.2 2).live,(tB w.2 2).live,true,true]
  rw[hN.liveA w2.2 w.2,hN.liveB w2.2 w.2]
 ·obtain⟨b0,b1,b2,b3,rfl⟩: ∃ b0 b1 b2 b3,Bs=[b0,b1,b2,b3]:=by
   match Bs,hl with
   |[b0,b1,b2,b3],_=>exact⟨b0,b1,b2,b3,rfl⟩
  refine zab (zEH 2 (p:=some b2) (k:=tC w.2) rfl) ?_
  have hq:=h w0 b0 b1 b3
  have hs:(AS.setB ⟨fun t=>args[t]?,bkOf (zEk 0 [b0,b1,b2,b3] (KS nf tA tB tC env w))⟩ 2 (pinAB none (tC w.2)))=(⟨fun t=>args[t]?,bkW nf tA tB tC env b0 b1 b3 w⟩:AS):=by
   simp only[AS.setB,AS.mk.injEq,true_and]
   funext i
   match i with
   |0=>rfl
   |1=>rfl
   |2=>rfl
   |3=>rfl
   |n+4=>rfl
  rw[hs]
  intro β S a w' Q hsr hk
  refine hq β S a w' Q hsr fun e β' S' a' w'' s' he=>hk e β' S' a' w'' s' ?_
  obtain⟨h1,s2,h2,c,g0,g1,g2,g3,g4,vs,h5,x,h6,h7⟩:=he
  exact⟨h1,s2,h2,⟨c+2,_,g0,zHc (k3:=.bx none (wC nf env w2.1)) g1 g2 g3 g4,hN.lendW g0 w2⟩,vs,h5,x,h6,h7⟩
theorem LN.effW(c i:Nat)(p0 p1 p3:Option BI)(w2:WS σ):zDS 2 i [0,1,c,3] [p0,p1,none,p3] (KS nf tA tB tC env w2)=[(i,pinAB none (tC w2.2)),(0,pinAB p0 (tA w2.2 i)),(1,pinAB p1 (tB w2.2 i)),(c,.gone),(3,.bx p3 (wC nf env w2.1))]:=by
 obtain⟨h0,h1,h2⟩:=hN.back4 w2.2 i 3
 have hF:=hN.backF i 3
 show[(i,pinAB none (backB [0,1,i,3] (tC w2.2))),(0,pinAB p0 (backB [0,1,i,3] (tA w2.2 2))),(1,pinAB p1 (backB [0,1,i,3] (tB w2.2 2))),(c,.gone),(3,.bx p3 [backV [0,1,i,3] (sE env),backV [0,1,i,3] nf,backV [0,1,i,3] (.int .i64 w2.1)])]=_
 rw[h0,h1,h2,hF];rfl
attribute [local irreducible] WL AC WD WE MStep OkOp
section
variable {w0:B0} {nt:Nat} {s:AS} {d:Option Nat} {t:TypeId} {pos:String} {af:Array Edge} {g:Option (Nat×Bool)}
theorem zyD{f:Nat}{ops:Array Operand}{ts:Array TypeId}{xs:List AV}{res:AV}{w w2:WS σ}{B0 B1 B3:BI}(c i:Nat)(hc:MV Tryz.prog 2 f xs (KS nf tA tB tC env w) res (KS nf tA tB tC env w2))
 (k0:s.blk 0=some (pinAB (some B0) (tA w.2 (c+2)))) (k1:s.blk 1=some (pinAB (some B1) (tB w.2 (c+2)))) (k2:s.blk (c+2)=some (pinAB none (tC w.2))) (k3:s.blk 3=some (.bx (some B3) (wC nf env w.1)))
 (ha:zCy s [0,1,c+2,3] ops.toList=some xs) (hn:zCb [0,1,c+2,3]=true) (hidn:(s.blk i).isNone=true) (hd:zt nt d=true):
 MStep Tryz.prog w0 nt ⟨d,.call {callee:=.value (.func f),args:=ops,argTypes:=ts},t,pos,af,g⟩ s res [(i,pinAB none (tC w2.2)),(0,pinAB (some B0) (tA w2.2 i)),(1,pinAB (some B1) (tB w2.2 i)),(c+2,.gone),(3,.bx (some B3) (wC nf env w2.1))]:=
 zDR [0,1,c+2,3] i [some B0,some B1,none,some B3] (ks:=[tA w.2 (c+2),tB w.2 (c+2),tC w.2,.bx none (wC nf env w.1)]) (zHc k0 k1 k2 k3) (hN.lendW hn w) ha hc hn rfl hidn (hN.effW (c+2) i (some B0) (some B1) (some B3) w2) hd
theorem zHi{f:Nat}{x:Operand}{ops:Array Operand}{ts:Array TypeId}{xs:List AV}{res:AV}{w w2:WS σ}{B0 B1 B3:BI}(c i:Nat)(hc:MV Tryz.prog 2 f xs (KS nf tA tB tC env w) res (KS nf tA tB tC env w2))(hx:evO s x=some (.fn (.func f) [] []))
 (k0:s.blk 0=some (pinAB (some B0) (tA w.2 (c+2)))) (k1:s.blk 1=some (pinAB (some B1) (tB w.2 (c+2)))) (k2:s.blk (c+2)=some (pinAB none (tC w.2))) (k3:s.blk 3=some (.bx (some B3) (wC nf env w.1)))
 (ha:zCy s [0,1,c+2,3] ops.toList=some xs) (hn:zCb [0,1,c+2,3]=true) (hidn:(s.blk i).isNone=true) (hd:zt nt d=true):
 MStep Tryz.prog w0 nt ⟨d,.call {callee:=.value x,args:=ops,argTypes:=ts},t,pos,af,g⟩ s res [(i,pinAB none (tC w2.2)),(0,pinAB (some B0) (tA w2.2 i)),(1,pinAB (some B1) (tB w2.2 i)),(c+2,.gone),(3,.bx (some B3) (wC nf env w2.1))]:=
 zE9 [0,1,c+2,3] i [some B0,some B1,none,some B3] (ks:=[tA w.2 (c+2),tB w.2 (c+2),tC w.2,.bx none (wC nf env w.1)]) hx (zHc k0 k1 k2 k3) (hN.lendW hn w) rfl rfl ha (by rw[List.append_nil];exact hc) hn rfl hidn (hN.effW (c+2) i (some B0) (some B1) (some B3) w2) hd
theorem zHo{x y:Operand}{ts:Array TypeId}{B0 B1:BI}{u:Tm}{q:σ}(c i:Nat)(hq:ok q)(hcn:cnt q≤4000000)(hu:u.size≤1048576)(hx:evO s x=some nf)(hy:zCy s [0,1,c+2] [y]=some [aT u])
 (k0:s.blk 0=some (pinAB (some B0) (tA q (c+2)))) (k1:s.blk 1=some (pinAB (some B1) (tB q (c+2)))) (k2:s.blk (c+2)=some (pinAB none (tC q))) (hidn:(s.blk i).isNone=true) (hd:zt nt d=true):
 MStep Tryz.prog w0 nt ⟨d,.call {callee:=.value x,args:= #[y],argTypes:=ts},t,pos,af,g⟩ s (.tup [aT (N q u).1,.int .i64 (N q u).2.1])
  [(i,pinAB none (tC (N q u).2.2)),(0,pinAB (some B0) (tA (N q u).2.2 i)),(1,pinAB (some B1) (tB (N q u).2.2 i)),(c+2,.gone)]:=by
 obtain⟨F,xi,xa,hnf,h1,h2,h3⟩:=hN.fn
 obtain⟨e0,e1,e2⟩:=hN.back3 (N q u).2.2 i
 have hn:zCb [0,1,c+2]=true:=by
  simp only[zCb,List.any_cons,List.any_nil,Bool.or_false,Bool.and_true,Bool.and_eq_true,Bool.not_eq_true',Bool.or_eq_false_iff]
  exact⟨⟨rfl,rfl⟩,rfl,trivial⟩
 refine zE9 [0,1,c+2] i [some B0,some B1,none] (ks:=[tA q (c+2),tB q (c+2),tC q]) (hx.trans (by rw[hnf])) ⟨k0,k1,k2,trivial⟩ (hN.lend3 _ q c) (h1 c) (h2 c) hy (h3 q u hq hcn hu) hn rfl hidn ?_ hd
 show[(i,pinAB none (backB [0,1,i] (tC (N q u).2.2))),(0,pinAB (some B0) (backB [0,1,i] (tA (N q u).2.2 2))),(1,pinAB (some B1) (backB [0,1,i] (tB (N q u).2.2 2))),(c+2,.gone)]=_
 rw[e0,e1,e2]
end
end
end Go.Proofs.YtokfbblhjpfjkaaGreat
