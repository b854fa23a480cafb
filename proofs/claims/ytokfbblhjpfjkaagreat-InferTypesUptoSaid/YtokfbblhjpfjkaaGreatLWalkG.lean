/- A walk from its beginning (infer.Work); the tank, by which terms are made normal -/
import Derived.Test.YtokfbblhjpfjkaaGreatLWalkF
import Derived.Test.YtokfbblhjpfjkaaGreatLInferB
set_option linter.unusedSimpArgs false
set_option linter.unusedVariables false
namespace Go.Proofs.YtokfbblhjpfjkaaGreat
open Go.Aw Go.RowKit
def zCN:List (Nat×List Nat):=[(0,[]),(1,[100008]),(2,[1,100008]),(3,[1,2,100008]),(4,[1,2,3,100008]),(5,[0]),(6,[0,1,2,3,4,5])]
def zD3:List (Nat×List Nat):=[(0,[]),(1,[0]),(2,[0,1]),(3,[0,1,2]),(4,[]),(5,[]),(6,[5]),(7,[5,6]),(8,[5,6,7]),(9,[0,1,2,3,4,5,6,7,8]),(10,[0,1,2,3,4,5,6,7,8,9]),(11,[0,1,2,3,4,5,6,7,8,9,10]),(12,[0,1,2,3,4,5,6,7,8,9,10]),(13,[0,1,2,3,4,5,6,7,8,9,10]),(14,[]),(15,[]),(16,[0,1,2,3,4,5,6,7,8,9,10,11,14,15]),(17,[0,1,2,3,4,5,6,7,8,9,10,11,12,14,15,16]),(18,[0,1,2,3,4,5,6,7,8,9,10,11,12,13,14,15,16,17])]
def zFP:List (Nat×List Nat):=[(0,[]),(1,[0]),(2,[0,1]),(3,[0,1,2]),(4,[]),(5,[4]),(6,[4,5]),(7,[0,1,2,3,4,5,6]),(8,[0,1,2,3,4,5,6,7]),(9,[0,1,2,3,4,5,6,7,8]),(10,[0,1,2,3,4,5,6,7,8,9])]
def zFE:List (Nat×List Nat):=[(0,[]),(1,[0]),(2,[0,1]),(3,[0,1,2]),(4,[]),(5,[4]),(6,[4,5]),(7,[0,1,2,3,4,5,6]),(8,[0,1,2,3,4,5,6,7]),(9,[0,1,2,3,4,5,6,7,8]),(10,[0,1,2,3,4,5,6,7,8,9])]
def zEa:List (Nat×List Nat):=[(0,[100002]),(1,[]),(2,[1]),(3,[1,2]),(4,[1,2,3]),(5,[]),(6,[5]),(7,[1,2,3,4,5,6]),(8,[0,1,2,3,4,5,6,7]),(9,[0,1,2,3,4,5,6,7,8]),(10,[0,1,2,3,4,5,6,7,8,9])]
def zHv(ty:Ty)(rs:List ResultVar)(res:AV)(B0 B1:BI)(r0 r1 r2:AB)(e:Exit)(s':AS):Prop:=
 (e=.ret∨e=.normal)∧ ∃ s2,Less s' s2∧ ∃ c k0 k1 k2,zCb [0,1,c]=true∧s2.blk 0=some (pinAB (some B0) k0)∧s2.blk 1=some (pinAB (some B1) k1)∧s2.blk c=some (pinAB none k2)∧lendL s2.blk [0,1,c] [k0,k1,k2]=some [r0,r1,r2]∧
   ∃ vs,resL ty s2 rs=some vs∧ ∃ x,packL s2.blk vs=some x∧Wk x res
theorem zFJ{ty:Ty}{s':AS}{rs:List ResultVar}{vs:List AV}{x res:AV}{B0 B1:BI}{k0 k1 k2 r0 r1 r2 q0 q1 q2:AB}(c:Nat)(hn:zCb [0,1,c]=true)(h0:s'.blk 0=some (pinAB (some B0) k0))(h1:s'.blk 1=some (pinAB (some B1) k1))(h2:s'.blk c=some (pinAB none k2))
 (hl:lendL s'.blk [0,1,c] [k0,k1,k2]=some [q0,q1,q2]) (h:resL ty s' rs=some vs) (hp:packL s'.blk vs=some x) (hx:Wk x res) (hq:[q0,q1,q2]=[r0,r1,r2]):zHv ty rs res B0 B1 r0 r1 r2 .ret s':=
 ⟨.inl rfl,_,.refl _,c,k0,k1,k2,hn,h0,h1,h2,hq▸hl,vs,h,x,hp,hx⟩
theorem zDm{f:Nat}{fn:Func}{c:Code}{args:List AV}{res:AV}{k0 k1 k2 r0 r1 r2:AB}(hf:Tryz.prog.funcs[f]? =some fn)(hb:fn.body=some c)(hname:(fn.name=="runtime.NumGoroutine")=false)(hn:Nat.ble args.length fn.ntmps=true)
 (hg:goodL [r0,r1,r2]=true) (l0:r0.live=k0.live) (l1:r1.live=k1.live)
 (h: ∀ (w0:B0) (B0 B1:BI),AC Tryz.prog w0 fn.ntmps c ⟨fun t=>args[t]?,bkOf [(0,pinAB (some B0) k0),(1,pinAB (some B1) k1),(2,pinAB none k2)]⟩ (zHv ty fn.results.toList res B0 B1 r0 r1 r2)):
 MV Tryz.prog 2 f args [k0,k1,k2] res [r0,r1,r2]:=by
 refine zFA hty hf hb hname hn hg rfl rfl ?_ fun w0 Bs hl=>?_
 ·show[r0.live,r1.live,true]=[k0.live,k1.live,true]
  rw[l0,l1]
 ·obtain⟨b0,b1,b2,rfl⟩: ∃ b0 b1 b2,Bs=[b0,b1,b2]:=by
   match Bs,hl with
   |[b0,b1,b2],_=>exact⟨b0,b1,b2,rfl⟩
  refine zab (zEH 2 (p:=some b2) (k:=k2) rfl) ?_
  have hq:=h w0 b0 b1
  have hs:(AS.setB ⟨fun t=>args[t]?,bkOf (zEk 0 [b0,b1,b2] [k0,k1,k2])⟩ 2 (pinAB none k2))=(⟨fun t=>args[t]?,bkOf [(0,pinAB (some b0) k0),(1,pinAB (some b1) k1),(2,pinAB none k2)]⟩:AS):=by
   simp only[AS.setB,AS.mk.injEq,true_and]
   funext i
   match i with
   |0=>rfl
   |1=>rfl
   |2=>rfl
   |n+3=>rfl
  rw[hs]
  intro β S a w' Q hsr hk
  refine hq β S a w' Q hsr fun e β' S' a' w'' s' he=>hk e β' S' a' w'' s' ?_
  obtain⟨h1,s2,h2,c,q0,q1,q2,g0,g1,g2,g3,g4,vs,h5,x,h6,h7⟩:=he
  exact⟨h1,s2,h2,⟨c,[q0,q1,q2],g0,(show lookL s2.blk [0,1,c] [some b0,some b1,none] [q0,q1,q2]from⟨g1,g2,g3,trivial⟩),g4⟩,vs,h5,x,h6,h7⟩
attribute [local irreducible] WL AC WD WE MStep OkOp
section
variable {σ:Type} {N:σ→Tm→Tm×Int×σ} {nf:AV} {tA tB:σ→Nat→AB} {tC:σ→AB} {ok:σ→Prop} {cnt:σ→Nat} {env:List En} (hN:LN N nf tA tB tC ok cnt)
include hN
theorem LN.lendQ{blk:Bk}{c q:Nat}(w:WS σ):lendL blk [0,1,c+2,q] [tA w.2 (c+2),tB w.2 (c+2),tC w.2,.bx none (wC nf env w.1)]=some (KS nf tA tB tC env w):=by
 have h:=hN.lend4 blk w.2 c q
 have hE:lendV blk [0,1,c+2,q] (sE env)=some (sE env):=rfl
 have hI:lendV blk [0,1,c+2,q] (.int .i64 w.1)=some (.int .i64 w.1):=rfl
 have h3:lendB blk [0,1,c+2,q] (.bx none (wC nf env w.1))=some (.bx none (wC nf env w.1)):=by
  simp only[lendB,zCQ,hE,hI,hN.lendF]
 simp only[lendL]at h⊢
 rw[h3]
 generalize lendB blk [0,1,c+2,q] (tA w.2 (c+2))=x at h⊢
 generalize lendB blk [0,1,c+2,q] (tB w.2 (c+2))=y at h⊢
 generalize lendB blk [0,1,c+2,q] (tC w.2)=z at h⊢
 cases x <;>cases y <;>cases z <;>first
  |(simp at h;done)
  |(simp at h;obtain⟨rfl,rfl,rfl⟩:=h;rfl)
theorem LN.effQ(c i q:Nat)(p0 p1 p3:Option BI)(w2:WS σ):zDS 2 i [0,1,c,q] [p0,p1,none,p3] (KS nf tA tB tC env w2)=[(i,pinAB none (tC w2.2)),(0,pinAB p0 (tA w2.2 i)),(1,pinAB p1 (tB w2.2 i)),(c,.gone),(q,.bx p3 (wC nf env w2.1))]:=by
 obtain⟨h0,h1,h2⟩:=hN.back4 w2.2 i q
 have hF:=hN.backF i q
 show[(i,pinAB none (backB [0,1,i,q] (tC w2.2))),(0,pinAB p0 (backB [0,1,i,q] (tA w2.2 2))),(1,pinAB p1 (backB [0,1,i,q] (tB w2.2 2))),(c,.gone),(q,.bx p3 [backV [0,1,i,q] (sE env),backV [0,1,i,q] nf,backV [0,1,i,q] (.int .i64 w2.1)])]=_
 rw[h0,h1,h2,hF];rfl
section
variable {w0:B0} {nt:Nat} {s:AS} {d:Option Nat} {t:TypeId} {pos:String} {af:Array Edge} {g:Option (Nat×Bool)}
theorem zFW{f:Nat}{ops:Array Operand}{ts:Array TypeId}{xs:List AV}{res:AV}{w w2:WS σ}{p0 p1 p3:Option BI}(c i q:Nat)(hc:MV Tryz.prog 2 f xs (KS nf tA tB tC env w) res (KS nf tA tB tC env w2))
 (k0:s.blk 0=some (pinAB p0 (tA w.2 (c+2)))) (k1:s.blk 1=some (pinAB p1 (tB w.2 (c+2)))) (k2:s.blk (c+2)=some (pinAB none (tC w.2))) (k3:s.blk q=some (.bx p3 (wC nf env w.1)))
 (ha:zCy s [0,1,c+2,q] ops.toList=some xs) (hn:zCb [0,1,c+2,q]=true) (hidn:(s.blk i).isNone=true) (hd:zt nt d=true):
 MStep Tryz.prog w0 nt ⟨d,.call {callee:=.value (.func f),args:=ops,argTypes:=ts},t,pos,af,g⟩ s res [(i,pinAB none (tC w2.2)),(0,pinAB p0 (tA w2.2 i)),(1,pinAB p1 (tB w2.2 i)),(c+2,.gone),(q,.bx p3 (wC nf env w2.1))]:=
 zDR [0,1,c+2,q] i [p0,p1,none,p3] (ks:=[tA w.2 (c+2),tB w.2 (c+2),tC w.2,.bx none (wC nf env w.1)]) ⟨k0,k1,k2,k3,trivial⟩ (hN.lendQ w) ha hc hn rfl hidn (hN.effQ (c+2) i q p0 p1 p3 w2) hd
end
set_option maxHeartbeats 2000000 in
theorem zGz(hK:NK N)(hE: ∀ e,e∈env→C0 e.typ)(hg3: ∀ s,goodL [tA s 2,tB s 2,tC s]=true){ctx:List Tm}{t:Tm}{s:σ}(hc:checkT t=0)(hx: ∀ x,x∈ctx→C0 x)(hl:ctx.length≤40)(ho:ok s)(hn:cnt s+4*t.size≤4000000):
 MV Tryz.prog 2 59 [sE env,sT ctx,aT t,nf] [tA s 2,tB s 2,tC s] (.tup [aT (workW N env ctx t s).1,.int .i64 (workW N env ctx t s).2.1]) [tA (workW N env ctx t s).2.2 2,tB (workW N env ctx t s).2.2 2,tC (workW N env ctx t s).2.2]:=by
 obtain⟨F,xi,xa,hnf,_⟩:=hN.fn
 subst hnf
 have h1:=zGG hN hK hE t.size ctx t (0,s) (Nat.le_refl _) (fun _=>⟨hc,hx,hl,ho,hn⟩)
 have sz:=zDX hK hE t.size ctx t (0,s) (Nat.le_refl _) (fun _=>hx) hc
 unfold workW
 generalize typW N env t.size ctx t (0,s)=r at h1 sz⊢
 obtain⟨u,e,s2⟩:=r
 dsimp only at h1 sz⊢
 have htw:=zcV u (by omega)
 by_cases h0:e=0
 ·subst h0
  rw[if_neg (fun q=>q rfl)]
  refine zDm Tryz.func59 rfl rfl rfl (hg3 _) (hN.liveA _ _) (hN.liveB _ _) fun w0 B0 B1=>?_
  repeat'(first|exact absurd rfl ‹_›|refine WL_m rfl (zFW hN 0 1019 15 h1 rfl rfl rfl rfl rfl rfl rfl rfl) ?_|refine zv 0 rfl htw rfl rfl rfl ?_|refine WL_p hty rfl rfl ?_|refine zh ?_|refine zi ?_|refine za ?_|refine zxg ?_|refine zbZ rfl ?_|refine zg ?_|refine zj rfl rfl rfl rfl (fun _=>?_) (fun _=>?_))
  exact zFJ 1019 rfl rfl rfl rfl (hN.lend3 _ s2 1017) rfl rfl (.refl _) rfl
 ·rw[if_pos h0]
  refine zDm Tryz.func59 rfl rfl rfl (hg3 _) (hN.liveA _ _) (hN.liveB _ _) fun w0 B0 B1=>?_
  repeat'(first|exact absurd h0 (by assumption)|refine WL_m rfl (zFW hN 0 1019 15 h1 rfl rfl rfl rfl rfl rfl rfl rfl) ?_|refine zD (id:=4) zCN rfl (by kernel_rfl) ?_|refine zu (.inl ⟨rfl,zI hty rfl rfl⟩) ?_|refine zS ⟨by kernel_rfl,?_⟩|refine WL_p hty rfl rfl ?_|refine zh ?_|refine zi ?_|refine za ?_|refine zd rfl ?_|refine zg ?_|refine zj rfl rfl rfl rfl (fun _=>?_) (fun _=>?_))
  exact zFJ 1019 rfl rfl rfl rfl (hN.lend3 _ s2 1017) rfl rfl (.tup (.cons (zCj _) (.cons (.refl _) .nil))) rfl
end
def zCM(l:List (List (List Int))):List (List AV):=l.map fun p=>[sP p]
abbrev sTr(l:List (List (List Int))):AV:=.lst 1 (zCM l) false
theorem zDj(l:List (List (List Int))):(zCM l).length=l.length:=by rw[zCM,List.length_map]
theorem zGP(l:List (List (List Int)))(p:List (List Int)):zCM (l++[p])=zCM l++[[sP p]]:=by simp[zCM]
abbrev tkA(env:List En)(s:Tk)(c:Nat):AB:=.bx none [sE env,.int .i64 s.1,.int .i64 s.2.1,grV c 1 (zCM s.2.2)]
abbrev tkB(_:Tk)(_:Nat):AB:=.gone
abbrev tkC(s:Tk):AB:=grB 33 1 (zCM s.2.2)
def zHb(l:List (List (List Int))):Prop:= ∀ x,x∈l→x.length≤4096∧ ∀ p,p∈x→p.length≤6000
def zHJ(s:Tk):Prop:=0≤s.1∧0≤s.2.1∧s.1+s.2.1≤1048576∧zHb s.2.2
def tkN(s:Tk):Nat:=s.2.2.length
abbrev tkF:AV:=.fn (.func 60) [.ptr 0 0] []
set_option maxHeartbeats 4000000 in
theorem zGB{env:List En}(hlk:LK 12 (rsE env) false 0 (lookR env))(s:Tk)(t:Tm)(ho:zHJ s)(hn:tkN s≤4000000)(ht:t.size≤1048576):
 MV Tryz.prog 2 60 [.ptr 0 0,aT t] [tkA env s 2,tkB s 2,tkC s] (.tup [aT (burnT (lookR env) s t).1,.int .i64 (burnT (lookR env) s t).2.1])
  [tkA env (burnT (lookR env) s t).2.2 2,tkB (burnT (lookR env) s t).2.2 2,tkC (burnT (lookR env) s t).2.2]:=by
 obtain⟨o1,o2,o3,_⟩:=ho
 have hgo:=zyP hlk t s.1 ht o1
 have hlen:=zDj s.2.2
 obtain⟨l,u,tr⟩:=s
 dsimp only at o1 o2 o3 hgo hlen⊢
 unfold burnT
 by_cases h0:(goR (lookR env) t l).2.2=0
 ·obtain⟨_,_,hp⟩:=zDU h0
  rw[if_neg (fun q=>q h0)]
  have hR:goR (lookR env) t l=((goR (lookR env) t l).1,(goR (lookR env) t l).2.1,0):=Prod.ext rfl (Prod.ext rfl h0)
  rw[hR]at hgo
  dsimp only at hp⊢
  generalize (goR (lookR env) t l).1=x at hgo⊢
  generalize (goR (lookR env) t l).2.1=p at hgo hp⊢
  have hpl:=zwC p
  have hpm:(p.length:Int)≤l:=by unfold normM at hp;omega
  have w1:IntKind.i64.wrap (l-((rsP p).length:Int))=l-(p.length:Nat):=by rw[hpl];exact zy (by omega) (by omega)
  have w2:IntKind.i64.wrap (u+((rsP p).length:Int))=u+(p.length:Nat):=by rw[hpl];exact zy (by omega) (by omega)
  have hsn:=zGP tr p
  have hn:tr.length≤4000000:=hn
  clear hR h0
  dsimp only[goV]at hgo
  simp only[tkA,tkC]
  rw[hsn, ←w1, ←w2]
  rcases hrp:zCM tr with _|⟨r0,rp⟩
  all_goals
   refine zDm Tryz.func60 rfl rfl rfl rfl rfl rfl fun w0 B0 B1=>?_
   repeat'(first|exact absurd rfl ‹_›|refine zD (id:=1) zD3 rfl (by kernel_rfl) ?_|refine zD (id:=4) zFP rfl (by kernel_rfl) ?_|refine zD (id:=5) zFE rfl (by kernel_rfl) ?_|refine zD (id:=6) zEa rfl (by kernel_rfl) ?_|refine zad 0 rfl hgo rfl rfl rfl ?_|refine zbc rfl (zck (id0:=2) (rows:=[]) hty 354 rfl rfl rfl rfl rfl rfl rfl (by simp) rfl rfl rfl) ?_|refine zbc rfl (zck (id0:=2) (rows:=r0::rp) hty 354 rfl rfl rfl rfl rfl rfl rfl (by rw[hrp]at hlen;simp only[List.length_cons,List.length_nil]at*;omega) rfl rfl rfl) ?_|refine zu (.inl ⟨rfl,zI hty rfl rfl⟩) ?_|refine zS ⟨by kernel_rfl,?_⟩|refine WL_p hty rfl rfl ?_|refine zh ?_|refine zi ?_|refine za ?_|refine zxg ?_|refine zbZ rfl ?_|refine zg ?_|refine zj rfl rfl rfl rfl (fun _=>?_) (fun _=>?_))
   exact zFJ (k0:=.bx none [_,_,_,_]) (k1:=.gone) (k2:=.ar none _ _ _ _) 354 rfl rfl rfl rfl rfl rfl rfl (.refl _) rfl
 ·rw[if_pos h0]
  dsimp only[goV]at hgo
  generalize (goR (lookR env) t l).2.2=e at hgo h0⊢
  simp only[tkA,tkC]
  rcases hrp:zCM tr with _|⟨r0,rp⟩
  all_goals
   refine zDm Tryz.func60 rfl rfl rfl rfl rfl rfl fun w0 B0 B1=>?_
   repeat'(first|exact absurd h0 (by assumption)|refine zD (id:=1) zD3 rfl (by kernel_rfl) ?_|refine zad 0 rfl hgo rfl rfl rfl ?_|refine zu (.inl ⟨rfl,zI hty rfl rfl⟩) ?_|refine zS ⟨by kernel_rfl,?_⟩|refine WL_p hty rfl rfl ?_|refine zh ?_|refine zi ?_|refine za ?_|refine zd rfl ?_|refine zg ?_|refine zj rfl rfl rfl rfl (fun _=>?_) (fun _=>?_))
   first
    |exact zFJ (k0:=.bx none [_,_,_,_]) (k1:=.gone) (k2:=.gone) 2 rfl rfl rfl rfl rfl rfl rfl (.tup (.cons (zCj _) (.cons (.refl _) .nil))) rfl
    |exact zFJ (k0:=.bx none [_,_,_,_]) (k1:=.gone) (k2:=.ar none _ _ _ _) 2 rfl rfl rfl rfl rfl rfl rfl (.tup (.cons (zCj _) (.cons (.refl _) .nil))) rfl
theorem zHI(c:Nat)(l:List Nat):zD5 (0::1::(c+2)::l) (c+2)=some 2:=by
 have h:Nat.beq (c+2) (c+2)=true:=Nat.beq_refl _
 have h0:Nat.beq 0 (c+2)=false:=rfl
 have h1:Nat.beq 1 (c+2)=false:=rfl
 simp only[zD5,h,h0,h1]
theorem zGt{env:List En}(hlk:LK 12 (rsE env) false 0 (lookR env)):LN (burnT (lookR env)) tkF (tkA env) tkB tkC zHJ tkN where
 keep s t ho:=by
  unfold burnT
  split
  ·exact ho
  ·rename_i h
   have h:=Classical.not_not.1 h
   obtain⟨hc,hch,hp⟩:=zDU h
   obtain⟨o1,o2,o3,o4⟩:=ho
   have hps:=(zyf hch hc).2
   unfold normM at hp
   refine⟨by show 0≤s.1-_;omega,by show 0≤s.2.1+_;omega,by show s.1-_+(s.2.1+_)≤_;omega,fun x hx=>?_⟩
   rcases List.mem_append.1 (show x∈s.2.2++[_]from hx)with q|q
   ·exact o4 x q
   ·obtain rfl:=List.mem_singleton.1 q
    exact⟨by omega,hps⟩
 more s t:=by
  unfold burnT tkN
  split
  ·exact Nat.le_succ _
  ·show(s.2.2++[_]).length≤_;simp
 liveA _ _:=rfl
 liveB _ _:=rfl
 lend3 blk s c:=by
  simp only[tkA,tkB,tkC]
  cases zCM s.2.2 with
  |nil=>rfl
  |cons r rs=>simp only[lendL,lendB,grV,grB,zCQ,lendV,zHI,argV,argS,zaj,zai]
 lend4 blk s c d:=by
  simp only[tkA,tkB,tkC]
  cases zCM s.2.2 with
  |nil=>rfl
  |cons r rs=>simp only[lendL,lendB,grV,grB,zCQ,lendV,zHI,argV,argS,zaj,zai]
 lendF blk c d:=rfl
 back3 s c:=by
  refine⟨?_,rfl,?_⟩
  ·simp only[tkA]
   cases zCM s.2.2 <;>rfl
  ·simp only[tkC]
   cases zCM s.2.2 <;>rfl
 back4 s c d:=by
  refine⟨?_,rfl,?_⟩
  ·simp only[tkA]
   cases zCM s.2.2 <;>rfl
  ·simp only[tkC]
   cases zCM s.2.2 <;>rfl
 backF c d:=rfl
 good s env' e:=by
  simp only[tkA,tkB,tkC]
  cases zCM s.2.2 <;>rfl
 fn:=⟨_,_,_,rfl,fun _=>rfl,fun _=>rfl,fun s t ho hn ht=>zGB hlk s t ho hn ht⟩
theorem zGE{env:List En}(s:Tk):goodL [tkA env s 2,tkB s 2,tkC s]=true:=by
 simp only[tkA,tkB,tkC]
 cases zCM s.2.2 <;>rfl
end Go.Proofs.YtokfbblhjpfjkaaGreat
