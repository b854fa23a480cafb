/- What types are worked out to, in plain words: the error so far, and what terms a -/
import Derived.Test.YtokfbblhjpfjkaaGreatGN
import Derived.Test.YtokfbblhjpfjkaaGreatGI
import Derived.Test.YtokfbblhjpfjkaaGreatGD
import Derived.Test.YtokfbblhjpfjkaaGreatGJ
set_option linter.unusedSimpArgs false
set_option linter.unusedVariables false
namespace Go.Proofs.YtokfbblhjpfjkaaGreat
open Go.Aw Go.RowKit
abbrev WS(σ:Type):=Int×σ
abbrev WM(σ α:Type):=WS σ→α×WS σ
section
variable {σ α β:Type}
def zzZ(a:α):WM σ α:=fun w=>(a,w)
def zyN(m:WM σ α)(f:α→WM σ β):WM σ β:=fun w=>f (m w).1 (m w).2
def okW(z:α)(m:WM σ α):WM σ α:=fun w=>if w.1≠0 then(z,w)else m w
def wantW(b:Bool)(er:Int):WM σ Bool:=fun w=>if w.1=0∧b=false then(false,(er,w.2))else(decide (w.1=0),w)
def gotW(r:Tm×Int):WM σ Tm:=zyN (wantW (decide (r.2=0)) r.2) fun _=>zzZ r.1
def normW(N:σ→Tm→Tm×Int×σ)(t:Tm):WM σ Tm:=okW zT fun w=>gotW ((N w.2 t).1,(N w.2 t).2.1) (w.1,(N w.2 t).2.2)
def instW(N:σ→Tm→Tm×Int×σ)(body a:Tm):WM σ Tm:=okW zT (zyN (gotW (instT body [a] 0)) (normW N))
def zAz(t:Tm)(by_:Int):WM σ Tm:=okW zT (gotW (zbs t by_ 0))
def zCm(t:Tm):WM σ Tm:=okW zT (gotW (t,checkT t))
def kidT(t:Tm)(i:Nat):Tm:=t.kids.getD i zT
def zz4(ty:List Tm→Tm→WM σ Tm)(ctx:List Tm)(a:Tm):WM σ Int:=zyN (ty ctx a) fun u=>zyN (wantW (decide (u.kind=2)) 8) fun _=>zzZ u.num
def ofW(ty:List Tm→Tm→WM σ Tm)(ctx:List Tm)(t typ:Tm):WM σ Bool:=zyN (ty ctx t) fun own=>okW false (wantW (decide (own=typ)) 8)
def zBS(ctx:List Tm)(a:Tm):WM σ (List Tm):=zyN (wantW (decide ((ctx.length:Int) <40)) 13) fun _=>zzZ (ctx++[a])
def zBh(b:Bool)(er:Int)(m:WM σ Tm):WM σ Tm:=zyN (wantW b er) fun ok=>if ok=true then m else zzZ zT
def zEZ(ty:List Tm→Tm→WM σ Tm)(ctx:List Tm)(p:Tm)(f:Tm→WM σ Tm):WM σ Tm:=zyN (ty ctx p) fun s=>zBh (decide (s.kind=7)) 8 (f s)
def zCL(a one two:Tm)(c:Tm):Bool:=
 (decide (c.kind=4)&&decide (kidT c 0=a))&&((decide ((kidT c 1).kind=4)&&decide (kidT (kidT c 1) 0=one))&&((decide ((kidT (kidT c 1) 1).kind=4)&&decide (kidT (kidT (kidT c 1) 1) 0=.mk 11 0 [two,.mk 1 1 [],.mk 1 0 []]))&&decide ((kidT (kidT (kidT c 1) 1) 1).kind=2)))
section
variable (N:σ→Tm→Tm×Int×σ) (env:List En) (ty:List Tm→Tm→WM σ Tm) (ctx:List Tm) (t:Tm)
def zF0:WM σ Tm:=zBh (decide (t.num <ctx.length)) 6 (zAz (ctx.getD (ctx.length-1-t.num.toNat) zT) (t.num+1))
def zGX:WM σ Tm:=zyN (wantW (decide (t.num <6)) 9) fun _=>zzZ (.mk 2 (t.num+1) [])
def zDs:WM σ Tm:=zBh (decide (t.num <env.length)) 6 (zzZ (match env[t.num.toNat]? with|some e=>e.typ|none=>zT))
def zCx:WM σ Tm:=zyN (zz4 ty ctx (kidT t 0)) fun i=>zyN (normW N (kidT t 0)) fun a=>zyN (zBS ctx a) fun c=>zyN (zz4 ty c (kidT t 1)) fun j=>zzZ (.mk 2 (max i j) [])
def zFD:WM σ Tm:=zyN (zz4 ty ctx (kidT t 0)) fun _=>zyN (normW N (kidT t 0)) fun a=>zyN (zBS ctx a) fun c=>zyN (ty c (kidT t 1)) fun b=>zCm (.mk 4 0 [a,b])
def appW:WM σ Tm:=zyN (ty ctx (kidT t 0)) fun f=>zBh (decide (f.kind=4)) 8 (zyN (ofW ty ctx (kidT t 1) (kidT f 0)) fun ok=>if ok=true then instW N (kidT f 1) (kidT t 1)else zzZ zT)
def zE2:WM σ Tm:=zyN (zz4 ty ctx (kidT t 0)) fun _=>zyN (normW N (kidT t 0)) fun s=>zBh (decide (s.kind=7)) 8 (zyN (ofW ty ctx (kidT t 1) (kidT s 0)) fun ok=>if ok=true then
 zyN (ty ctx (kidT t 2)) fun b=>zyN (instW N (kidT s 1) (kidT t 1)) fun x=>zyN (wantW (decide (b=x)) 8) fun _=>zzZ s else zzZ zT)
def zF9:WM σ Tm:=zEZ ty ctx (kidT t 0) fun s=>zzZ (kidT s 0)
def zGa:WM σ Tm:=zEZ ty ctx (kidT t 0) fun s=>instW N (kidT s 1) (.mk 9 0 [kidT t 0])
def idW:WM σ Tm:=zyN (zz4 ty ctx (kidT t 0)) fun i=>zyN (normW N (kidT t 0)) fun a=>zyN (ofW ty ctx (kidT t 1) a) fun _=>zyN (ofW ty ctx (kidT t 2) a) fun _=>zzZ (.mk 2 i [])
def zDr:WM σ Tm:=zyN (zz4 ty ctx (kidT t 0)) fun _=>zyN (normW N (kidT t 0)) fun a=>zyN (ofW ty ctx (kidT t 1) a) fun _=>zyN (normW N (kidT t 1)) fun x=>zCm (.mk 11 0 [a,x,x])
def appsT(f:Tm)(l:List Tm):Tm:=l.foldl (fun x a=>.mk 6 0 [x,a]) f
def zGd:WM σ Tm:=zyN (ty ctx (kidT t 2)) fun p=>zBh (decide (p.kind=11)) 8 (
 zyN (zAz (kidT p 0) 1) fun one=>zyN (zAz (kidT p 0) 2) fun two=>zyN (ty ctx (kidT t 0)) fun c=>okW zT (zBh (zCL (kidT p 0) one two c) 8 (
  zyN (ty ctx (kidT t 1)) fun d=>zyN (zAz (kidT t 0) 1) fun c1=>
  zyN (normW N (.mk 4 0 [kidT p 0,appsT c1 [.mk 1 0 [],.mk 1 0 [],.mk 12 0 [one,.mk 1 0 []]]])) fun x=>zyN (wantW (decide (d=x)) 8) fun _=>normW N (appsT (kidT t 0) [kidT p 1,kidT p 2,kidT t 2]))))
def zCt:WM σ Tm:=
 if t.kind=1 then zF0 ctx t else if t.kind=2 then zGX t else if t.kind=3 then zDs env t else if t.kind=4 then zCx N ty ctx t else if t.kind=5 then zFD N ty ctx t
 else if t.kind=6 then appW N ty ctx t else if t.kind=7 then zCx N ty ctx t else if t.kind=8 then zE2 N ty ctx t else if t.kind=9 then zF9 ty ctx t else if t.kind=10 then zGa N ty ctx t
 else if t.kind=11 then idW N ty ctx t else if t.kind=12 then zDr N ty ctx t else zGd N ty ctx t
end
def typW(N:σ→Tm→Tm×Int×σ)(env:List En):Nat→List Tm→Tm→WM σ Tm
 |0,_,_=>okW zT (zzZ zT)
 |n+1,ctx,t=>okW zT (zCt N env (typW N env n) ctx t)
def workW(N:σ→Tm→Tm×Int×σ)(env:List En)(ctx:List Tm)(t:Tm)(s:σ):Tm×Int×σ:=
 if(typW N env t.size ctx t (0,s)).2.1≠0 then(zT,(typW N env t.size ctx t (0,s)).2.1,(typW N env t.size ctx t (0,s)).2.2)else((typW N env t.size ctx t (0,s)).1,0,(typW N env t.size ctx t (0,s)).2.2)
end
abbrev Tk:=Int×Int×List (List (List Int))
def burnT(lk:Tm→Option (Tm×Int))(s:Tk)(t:Tm):Tm×Int×Tk:=
 if(goR lk t s.1).2.2≠0 then(zT,(goR lk t s.1).2.2,s)else((goR lk t s.1).1,0,(s.1-((goR lk t s.1).2.1.length:Nat),s.2.1+((goR lk t s.1).2.1.length:Nat),s.2.2++[(goR lk t s.1).2.1]))
def zDa(env:List En)(ctx:List Tm):Int:=if 40 <(ctx.length:Int)then 13 else
 if(List.range ctx.length).all (fun i=>zcY (ctx.getD i zT) (i:Nat) (env.length:Nat))then 0 else 6
def zzQ(env:List En)(ctx:List Tm)(t:Tm)(fuel:Int):Tm×List (List (List Int))×Int×Int:=
 let e:=if envI env≠0 then envI env else if zDa env ctx≠0 then zDa env ctx else if checkT t≠0 then checkT t else if fuel <0∨65536 <fuel then 1 else 0
 if e≠0 then(zT,[],0,e)else
 let r:=workW (burnT (lookR env)) env ctx t (fuel,0,[])
 if r.2.1≠0 then(zT,[],0,r.2.1)else(r.1,r.2.2.2.2,r.2.2.2.1,0)
end Go.Proofs.YtokfbblhjpfjkaaGreat
