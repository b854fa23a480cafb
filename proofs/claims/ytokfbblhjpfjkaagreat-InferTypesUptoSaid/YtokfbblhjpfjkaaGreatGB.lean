/- Elements, appends, the greater of two, a field of a value: as effects.; Regions  -/
import Derived.Test.YtokfbblhjpfjkaaGreatGA
import Derived.Orders
import Derived.ChangeArms
import Derived.ReadAgain
import Derived.ChangeOld
import Derived.JoinedCond
import Derived.ProofKit
import Derived.OpenShut
import Derived.Maps.Own
import Derived.Lib.SlKeysI
import Derived.Laws.AppendOwn
namespace Go.Aw
open Go.RowKit
section
variable {P:Program} {ty:Ty} {w0:B0} {nt:Nat} {s s':AS} {ops:Array Oper} {l:List Oper} {o:Oper} {K:AS→Prop} {C:Exit→AS→Prop} {d:Option Nat} {t:TypeId} {pos:String} {af:Array Edge} {g:Option (Nat×Bool)}
def zrE(ty:Ty)(u es:Nat):Bool:=match ty u with
 |some ui=>match ui.desc with
  | .slice e=>match ty e with
    |some ei=>Nat.beq es ei.size
    |none=>false
  |_=>false
 |none=>false
theorem zmF{u es:Nat}(h:zrE ty u es=true): ∃ ui e ei,ty u=some ui∧ui.desc=.slice e∧ty e=some ei∧Nat.beq es ei.size=true:=by
 unfold zrE at h
 split at h
 ·rename_i ui h1
  split at h
  ·rename_i e h2
   split at h
   ·rename_i ei h3
    exact⟨ui,e,ei,h1,h2,h3,h⟩
   ·cases h
  ·cases h
 ·cases h
theorem zaq(hty:TyOK P ty){u:Nat}{x y:Operand}{es:Nat}{rows:List (List AV)}{row:List AV}{full:Bool}{k:IntKind}{i:Int}(hx:evO s x=some (.lst es rows full))(hy:evO s y=some (.int k i))(hq:zrE ty u es=true)
 (h0:0≤i) (hr:rows[i.toNat]? =some row) (hd:zt nt d=true):MStep P w0 nt ⟨d,.indexAddr u x y,t,pos,af,g⟩ s (.eptr row 0) []:=by
 intro t2 hle _
 obtain⟨ui,e,ei,h1,h2,h3,h4⟩:=zmF hq
 exact zrd hty h1 h2 h3 (zV hle hx) (zV hle hy) h4 h0 hr hd
theorem zm(hty:TyOK P ty){u:Nat}{x y:Operand}{es:Nat}{rows:List (List AV)}{row:List AV}{full:Bool}{k:IntKind}{i:Nat}(hx:evO s x=some (.lst es rows full))(hy:evO s y=some (.int k (i:Int)))(hq:zrE ty u es=true)
 (hr:rows[i]? =some row) (hd:zt nt d=true):MStep P w0 nt ⟨d,.indexAddr u x y,t,pos,af,g⟩ s (.eptr row 0) []:=zaq hty hx hy hq (Int.natCast_nonneg _) hr hd
def zus(blk:Bk)(id:Nat):Option Nat:=match blk id with
 |some (.ar _ _ es _ _)=>some es
 |some (.ro _ es _)=>some es
 |_=>none
theorem zgs(hty:TyOK P ty){u:Nat}{x y:Operand}{id es n:Nat}{k:IntKind}{i:Int}(hx:evO s x=some (.arr id))(hy:evO s y=some (.int k i))(he:zus s.blk id=some es)(hq:zrE ty u es=true)
 (hn:zjO s.blk (.arr id)=some n) (h0:0≤i) (h1:i <n) (hd:zt nt d=true):MStep P w0 nt ⟨d,.indexAddr u x y,t,pos,af,g⟩ s (.aptr id i.toNat 0) []:=by
 intro t2 hle _
 obtain⟨ui,e,ei,g1,g2,g3,g4⟩:=zmF hq
 refine zq1 hty g1 g2 g3 (zV hle hx) (zV hle hy) ?_ (zkS hle hn) h0 h1 hd
 unfold zus at he
 split at he
 ·rename_i hk;rw[hle.2 _ _ hk];obtain rfl:=Option.some.inj he;exact g4
 ·rename_i hk;rw[hle.2 _ _ hk];obtain rfl:=Option.some.inj he;exact g4
 ·cases he
def zl7(ty:Ty)(u:Nat):Option (Nat×Nat×Nat):=match ty u with
 |some ui=>match ui.desc with
  | .slice e=>match ty e with
    |some ei=>some (e,ei.size,ei.bytes)
    |none=>none
  |_=>none
 |none=>none
theorem zgR{u e es by':Nat}(h:zl7 ty u=some (e,es,by')): ∃ ui ei,ty u=some ui∧ui.desc=.slice e∧ty e=some ei∧ei.size=es∧ei.bytes=by':=by
 unfold zl7 at h
 split at h
 ·rename_i ui h1
  split at h
  ·rename_i e h2
   split at h
   ·rename_i ei h3
    simp only[Option.some.injEq,Prod.mk.injEq]at h
    obtain⟨rfl,rfl,rfl⟩:=h
    exact⟨ui,ei,h1,h2,h3,rfl,rfl⟩
   ·cases h
  ·cases h
 ·cases h
theorem zfU{n b:Nat}(hn:n≤4194304)(hb:Nat.ble b 65536=true):n*b≤140737488355328:=by
 have hb:=Nat.le_of_ble_eq_true hb
 have:=Nat.mul_le_mul hn hb
 omega
theorem zlC(hty:TyOK P ty){u:Nat}{x y:Operand}{p q:AV}{r1 r2:Nat×List (List AV)}{q2:Nat×Nat×Nat}(he:zl7 ty u=some q2)(hx:evO s x=some p)(hp:zaP s.blk p=some r1)
 (hy:evO s y=some q) (hq:zaP s.blk q=some r2) (hz:r2.2=[]) (hd:zt nt d=true):
 MStep P w0 nt ⟨d,.call {callee:=.builtin .append,args:= #[x,y],argTypes:= #[u,u]},t,pos,af,g⟩ s p []:=by
 intro t2 hle _
 obtain⟨e,es,b⟩:=q2
 obtain⟨ui,ei,h1,h2,h3,_,_⟩:=zgR he
 obtain⟨a1,a2⟩:=r1
 obtain⟨b1,b2⟩:=r2
 simp only at hz
 subst hz
 exact zpN hty h1 h2 h3 (zV hle hx) (zcJ hle hp) (zV hle hy) (zcJ hle hq) hd
theorem ze7(hty:TyOK P ty){u e es b:Nat}{x y:Operand}{q:AV}{es0 es2:Nat}{rows rows2:List (List AV)}(id:Nat)(he:zl7 ty u=some (e,es,b))(hid:(s.blk id).isNone=true)(hx:evO s x=some (.lst es0 rows true))
 (hes:(rows.isEmpty||Nat.beq es0 es)=true) (hy:evO s y=some q) (hq:zaP s.blk q=some (es2,rows2)) (hes2:Nat.beq es2 es=true)
 (hne:rows2≠[]) (hn:rows.length+rows2.length≤4194304) (hb:Nat.ble b 65536=true) (hb0:Nat.blt 0 b=true) (hd:zt nt d=true):
 MStep P w0 nt ⟨d,.call {callee:=.builtin .append,args:= #[x,y],argTypes:= #[u,u]},t,pos,af,g⟩ s (.arr id) [(id,.arr e es (rows++rows2) true)]:=by
 intro t2 hle hfr
 obtain⟨ui,ei,h1,h2,h3,rfl,rfl⟩:=zgR he
 exact zqc hty id h1 h2 h3 (hfr (_,_) (List.mem_singleton.2 rfl) (Option.isNone_iff_eq_none.1 hid)) (zV hle hx) hes (zV hle hy) (zcJ hle hq) hes2 hne (zfU hn hb) hb0 hd
theorem zuC(hty:TyOK P ty){u e es b:Nat}{x y:Operand}{q:AV}{id0 es0 es2:Nat}{rows rows2:List (List AV)}{wr:Bool}(id:Nat)(he:zl7 ty u=some (e,es,b))(hid:(s.blk id).isNone=true)(hx:evO s x=some (.arr id0))
 (hk:s.blk id0=some (.arr e es0 rows wr)) (hes:Nat.beq es0 es=true) (hy:evO s y=some q) (hq:zaP s.blk q=some (es2,rows2)) (hes2:Nat.beq es2 es=true)
 (hne:rows2≠[]) (hn:rows.length+rows2.length≤4194304) (hb:Nat.ble b 65536=true) (hb0:Nat.blt 0 b=true) (hd:zt nt d=true):
 MStep P w0 nt ⟨d,.call {callee:=.builtin .append,args:= #[x,y],argTypes:= #[u,u]},t,pos,af,g⟩ s (.arr id) [(id0,.ro e es0 rows),(id,.arr e es0 (rows++rows2) false)]:=by
 intro t2 hle hfr
 obtain⟨ui,ei,h1,h2,h3,rfl,rfl⟩:=zgR he
 exact zov hty id h1 h2 h3 (hfr (_,_) (List.mem_cons_of_mem _ (List.mem_singleton.2 rfl)) (Option.isNone_iff_eq_none.1 hid)) (zV hle hx) (hle.2 _ _ hk) hes (zV hle hy) (zcJ hle hq) hes2 hne (zfU hn hb) hb0 hd
theorem zuz{x y:Operand}{ts:Array TypeId}{k:IntKind}{a b:Int}(hx:evO s x=some (.int k a))(hy:evO s y=some (.int k b))(hd:zt nt d=true):
 OkOp P w0 nt ⟨d,.call {callee:=.builtin .max,args:= #[x,y],argTypes:=ts},t,pos,af,g⟩ s (s.put d (.int k (if b>a then b else a))):=
 zaE hd fun β S ac w hs=>by
  have h1:=zah hs hx
  have h2:=zah hs hy
  generalize e1:ac.eval x=cv at h1
  generalize e2:ac.eval y=dv at h2
  cases h1
  cases h2
  exact⟨_,by simp[execOp,resolve,invoke,builtin,Builtin.max_,Builtin.max2,e1,e2],.int _ _⟩
theorem zey{x y:Operand}{ts:Array TypeId}{k:IntKind}{a b:Int}(hx:evO s x=some (.int k a))(hy:evO s y=some (.int k b))(hd:zt nt d=true):
 MStep P w0 nt ⟨d,.call {callee:=.builtin .max,args:= #[x,y],argTypes:=ts},t,pos,af,g⟩ s (.int k (if b>a then b else a)) []:=
 fun _ hle _=>zuz (zV hle hx) (zV hle hy) hd
theorem zuF{x y:Operand}{ts:Array TypeId}{k:IntKind}{a b:Int}(hx:evO s x=some (.int k a))(hy:evO s y=some (.int k b))(hd:zt nt d=true):
 OkOp P w0 nt ⟨d,.call {callee:=.builtin .min,args:= #[x,y],argTypes:=ts},t,pos,af,g⟩ s (s.put d (.int k (if b <a then b else a))):=
 zaE hd fun β S ac w hs=>by
  have h1:=zah hs hx
  have h2:=zah hs hy
  generalize e1:ac.eval x=cv at h1
  generalize e2:ac.eval y=dv at h2
  cases h1
  cases h2
  exact⟨_,by simp[execOp,resolve,invoke,builtin,Builtin.min_,Builtin.min2,e1,e2],.int _ _⟩
theorem znM{x y:Operand}{ts:Array TypeId}{k:IntKind}{a b:Int}(hx:evO s x=some (.int k a))(hy:evO s y=some (.int k b))(hd:zt nt d=true):
 MStep P w0 nt ⟨d,.call {callee:=.builtin .min,args:= #[x,y],argTypes:=ts},t,pos,af,g⟩ s (.int k (if b <a then b else a)) []:=
 fun _ hle _=>zuF (zV hle hx) (zV hle hy) hd
def zdA(P:Program)(u:Nat):Bool:=match P.underlying u with
 |some .bool=>true
 |_=>false
theorem zpC{xt yt:TypeId}{x y:Operand}{a b:Bool}(_hty:TyOK P ty)(hu:zdA P xt=true)(hx:evO s x=some (.bool a))(hy:evO s y=some (.bool b))(hd:zt nt d=true)
 (h1:a=b→WL P w0 nt ops l (s.put d (.bool true)) K) (h2: ¬a=b→WL P w0 nt ops l (s.put d (.bool false)) K):WL P w0 nt ops (⟨d,.binOp .eql xt x y yt,t,pos,af,none⟩::l) s K:=by
 have hu':P.underlying xt=some .bool:=by
  unfold zdA at hu
  split at hu
  ·assumption
  ·cases hu
 refine ziK rfl (zuR hu' hx hy hd) ?_
 by_cases h:a=b
 ·subst h
  rw[beq_self_eq_true];exact h1 rfl
 ·have:(a==b)=false:=by simpa using h
  rw[this];exact h2 h
def zvD(ty:Ty)(st f:Nat):AV→Option AV
 | .agg cs=>(ty st).bind fun si=>match si.desc with
   | .struct fs=>(fs[f]?).bind fun q=>(ty q.2).bind fun fi=>match fi.desc.isAgg with
     |true=>match Nat.ble (q.1+fi.size) cs.length with
      |true=>(zcM ((cs.drop q.1).take fi.size)).bind fun r=>some (.agg r)
      |false=>none
     |false=>cs[q.1]?
   |_=>none
 |_=>none
end
end Go.Aw
namespace Go.Aw
open Go.RowKit
structure Ent where
 d:Option Nat
 v:AV
 bs:List (Nat×AB)
def Ent.on(s:AS)(e:Ent):AS:=s.eff e.d e.v e.bs
def actF(D:Nat→Bool):Nat→List Ent→AS→AS
 |_,[],s=>s
 |k,e::l,s=>actF D (k+1) l (match D k with|true=>e.on s|false=>s)
def isE(u:Nat)(e:Ent):Bool:=match e.d with
 |some d=>Nat.beq d u
 |none=>false
def isB(i:Nat)(e:Ent):Bool:=e.bs.any fun p=>Nat.beq p.1 i
theorem zue{u:Nat}{e:Ent}(h:isE u e=false):e.d≠some u:=by
 intro q
 simp only[isE,q]at h
 rw[Nat.beq_refl]at h
 cases h
theorem zmt{u:Nat}{e:Ent}(h:isE u e=true):e.d=some u:=by
 unfold isE at h
 split at h
 ·rename_i d hd;rw[hd,Nat.eq_of_beq_eq_true h]
 ·cases h
theorem zjs{s:AS}{e:Ent}{u:Nat}(h:isE u e=false):(e.on s).env u=s.env u:=by
 have:=zue h
 unfold Ent.on AS.eff AS.put zuE
 cases hd:e.d with
 |none=>rfl
 |some d=>exact zJ _ _ (fun q=>this (by rw[hd,q]))
theorem zeN{s:AS}{e:Ent}{u:Nat}(h:isE u e=true):(e.on s).env u=some e.v:=by
 have:=zmt h
 unfold Ent.on AS.eff AS.put zuE
 rw[this]
 exact zR _ _ _
theorem zj7{s:AS}{e:Ent}:(e.on s).blk=setBs s.blk e.bs:=by
 unfold Ent.on AS.eff AS.put
 rfl
theorem ztV{i:Nat}{e:Ent}(h:isB i e=false): ∀ p∈e.bs,p.1≠i:=by
 intro p hp q
 have:e.bs.any (fun p=>Nat.beq p.1 i)=true:=List.any_eq_true.2 ⟨p,hp,by rw[q,Nat.beq_refl]⟩
 unfold isB at h
 rw[this]at h
 cases h
theorem zj5{s:AS}{e:Ent}{i:Nat}(h:isB i e=false):(e.on s).blk i=s.blk i:=by
 rw[zj7];exact zfx (ztV h)
theorem zgv{b c:Bk}{i:Nat}: ∀ {l:List (Nat×AB)},(b i=c i∨l.any (fun p=>Nat.beq p.1 i)=true)→setBs b l i=setBs c l i
 |[],h=>by
  rcases h with h|h
  ·exact h
  ·simp at h
 |(j,k)::l,h=>by
  simp only[setBs]
  refine zgv ?_
  by_cases e:i=j
  ·subst e;exact .inl (by rw[zR,zR])
  ·rcases h with h|h
   ·exact .inl (by rw[zJ _ _ e,zJ _ _ e];exact h)
   ·simp only[List.any_cons,Bool.or_eq_true]at h
    rcases h with h|h
    ·exact absurd (Nat.eq_of_beq_eq_true h).symm e
    ·exact .inr h
theorem zfP{u:Nat}{D D':Nat→Bool}: ∀ (l:List Ent) (k:Nat) (s s':AS),s.env u=s'.env u→(∀ m e,l[m]? =some e→isE u e=true→D (k+m)=D' (k+m))→(actF D k l s).env u=(actF D' k l s').env u
 |[],_,s,s',h,_=>h
 |e::l,k,s,s',h,hD=>by
  simp only[actF]
  refine zfP l (k+1) _ _ ?_ (fun m e' h1 h2=>by have:=hD (m+1) e' (by simpa using h1) h2;rwa[←Nat.add_assoc,Nat.add_right_comm]at this)
  cases q:isE u e with
  |true=>
   have:=hD 0 e rfl q
   simp only[Nat.add_zero]at this
   rw[this]
   cases D' k
   ·exact h
   ·simp only;rw[zeN q,zeN q]
  |false=>
   have e1: ∀ (s:AS) (b:Bool),(match b with|true=>e.on s|false=>s).env u=s.env u:=fun s b=>by
    cases b
    ·rfl
    ·exact zjs q
   rw[e1,e1];exact h
theorem zev{i:Nat}{D D':Nat→Bool}: ∀ (l:List Ent) (k:Nat) (s s':AS),s.blk i=s'.blk i→(∀ m e,l[m]? =some e→isB i e=true→D (k+m)=D' (k+m))→(actF D k l s).blk i=(actF D' k l s').blk i
 |[],_,s,s',h,_=>h
 |e::l,k,s,s',h,hD=>by
  simp only[actF]
  refine zev l (k+1) _ _ ?_ (fun m e' h1 h2=>by have:=hD (m+1) e' (by simpa using h1) h2;rwa[←Nat.add_assoc,Nat.add_right_comm]at this)
  cases q:isB i e with
  |true=>
   have:=hD 0 e rfl q
   simp only[Nat.add_zero]at this
   rw[this]
   cases D' k
   ·exact h
   ·simp only;rw[zj7,zj7];exact zgv (.inl h)
  |false=>
   have e1: ∀ (s:AS) (b:Bool),(match b with|true=>e.on s|false=>s).blk i=s.blk i:=fun s b=>by
    cases b
    ·rfl
    ·exact zj5 q
   rw[e1,e1];exact h
theorem zi9{u i:Nat}{e:Ent}{D:Nat→Bool}(hE:isE u e=true)(hi:D i=true): ∀ (l:List Ent) (k:Nat) (s:AS),k≤i→l[i-k]? =some e→(∀ m e',l[m]? =some e'→i <k+m→isE u e'=true→D (k+m)=false)→(actF D k l s).env u=some e.v
 |[],_,s,_,h,_=>by simp at h
 |e0::l,k,s,hk,h,hD=>by
  simp only[actF]
  by_cases q:k=i
  ·subst q
   rw[Nat.sub_self]at h
   obtain rfl:=Option.some.inj h
   rw[hi]
   simp only
   have e1:(actF (fun _=>false) (k+1) l (e0.on s)).env u=(e0.on s).env u:=by
    have: ∀ (l:List Ent) (k:Nat) (s:AS),actF (fun _=>false) k l s=s:=fun l=>by
     induction l with
     |nil=>intro _ _;rfl
     |cons a l ih=>intro k s;simp only[actF];exact ih _ _
    rw[this]
   rw[zfP (D':=fun _=>false) l (k+1) _ _ rfl (fun m e' h1 h2=>by
    have:=hD (m+1) e' (by simpa using h1) (by omega) h2
    rwa[←Nat.add_assoc,Nat.add_right_comm]at this),e1,zeN hE]
  ·refine zi9 hE hi l (k+1) _ (by omega) ?_ (fun m e' h1 h2 h3=>?_)
   ·have:i-k=(i-(k+1))+1:=by omega
    rw[this]at h
    simpa using h
   ·have:=hD (m+1) e' (by simpa using h1) (by omega) h3
    rwa[←Nat.add_assoc,Nat.add_right_comm]at this
theorem zjJ{u i:Nat}{e:Ent}{D:Nat→Bool}(hE:isB u e=true)(hi:D i=true): ∀ (l:List Ent) (k:Nat) (s:AS),k≤i→l[i-k]? =some e→(∀ m e',l[m]? =some e'→i <k+m→isB u e'=true→D (k+m)=false)→ ∀ c:Bk,(actF D k l s).blk u=setBs c e.bs u
 |[],_,s,_,h,_=>by simp at h
 |e0::l,k,s,hk,h,hD=>by
  intro c
  simp only[actF]
  by_cases q:k=i
  ·subst q
   rw[Nat.sub_self]at h
   obtain rfl:=Option.some.inj h
   rw[hi]
   simp only
   have e1:(actF (fun _=>false) (k+1) l (e0.on s)).blk u=(e0.on s).blk u:=by
    have: ∀ (l:List Ent) (k:Nat) (s:AS),actF (fun _=>false) k l s=s:=fun l=>by
     induction l with
     |nil=>intro _ _;rfl
     |cons a l ih=>intro k s;simp only[actF];exact ih _ _
    rw[this]
   rw[zev (D':=fun _=>false) l (k+1) _ _ rfl (fun m e' h1 h2=>by
    have:=hD (m+1) e' (by simpa using h1) (by omega) h2
    rwa[←Nat.add_assoc,Nat.add_right_comm]at this),e1,zj7]
   exact zgv (.inr hE)
  ·refine zjJ hE hi l (k+1) _ (by omega) ?_ (fun m e' h1 h2 h3=>?_) c
   ·have:i-k=(i-(k+1))+1:=by omega
    rw[this]at h
    simpa using h
   ·have:=hD (m+1) e' (by simpa using h1) (by omega) h3
    rwa[←Nat.add_assoc,Nat.add_right_comm]at this
def pr(pt:List (List Nat))(i j:Nat):Bool:=(pt.getD i []).any (Nat.beq j)&&Nat.blt j 100000
def zuH(pt:List (List Nat))(i b:Nat):Bool:=(pt.getD i []).any (Nat.beq (100000+b))
def zvK(pt:List (List Nat))(i u:Nat):Bool:=(pt.getD i []).any (Nat.beq (1000000+u))
def hideF(pt:List (List Nat))(i:Nat)(f:Nat→Option AV)(u:Nat):Option AV:=match zvK pt i u with
 |true=>none
 |false=>f u
theorem zoL{pt:List (List Nat)}{i u:Nat}{f:Nat→Option AV}(h:f u=none):hideF pt i f u=none:=by
 unfold hideF;split
 ·rfl
 ·exact h
theorem zqd{pt:List (List Nat)}{i u:Nat}{f:Nat→Option AV}{x:AV}(h:hideF pt i f u=some x):f u=some x:=by
 unfold hideF at h;split at h
 ·cases h
 ·exact h
def lkE(D:Nat→Bool)(f:Nat→Option AV)(u:Nat):List Ent→Option AV
 |[]=>f u
 |e::l=>match isE u e with
  |true=>match D l.length with
   |true=>some e.v
   |false=>none
  |false=>lkE D f u l
def lkB(D:Nat→Bool)(f:Bk)(b:Nat):List Ent→Option AB
 |[]=>f b
 |e::l=>match isB b e with
  |true=>match D l.length with
   |true=>setBs (fun _=>none) e.bs b
   |false=>none
  |false=>lkB D f b l
theorem zoh{D:Nat→Bool}{f:Nat→Option AV}{u:Nat}{x:AV}: ∀ {r:List Ent},lkE D f u r=some x→
 (∃ (k:Nat) (e:Ent),r.reverse[k]? =some e∧isE u e=true∧D k=true∧x=e.v∧ ∀ (m:Nat) (e':Ent),r.reverse[m]? =some e'→k <m→isE u e'=false)∨(f u=some x∧ ∀ (m:Nat) (e':Ent),r.reverse[m]? =some e'→isE u e'=false)
 |[],h=>.inr ⟨h,fun m e' q=>by simp at q⟩
 |e::l,h=>by
  simp only[lkE]at h
  have hlast:(e::l).reverse[l.length]? =some e:=by simp
  have hidx: ∀ (m:Nat) (e':Ent),(e::l).reverse[m]? =some e'→(m <l.length∧l.reverse[m]? =some e')∨(m=l.length∧e'=e):=by
   intro m e' hm
   have hlt:=(List.getElem?_eq_some_iff.1 hm).1
   simp only[List.length_reverse,List.length_cons]at hlt
   rw[List.reverse_cons]at hm
   by_cases q:m <l.length
   ·rw[List.getElem?_append_left (by simpa using q)]at hm;exact .inl ⟨q,hm⟩
   ·obtain rfl:m=l.length:=by omega
    rw[List.reverse_cons]at hlast
    rw[hlast]at hm
    exact .inr ⟨rfl,(Option.some.inj hm).symm⟩
  split at h
  ·rename_i q
   split at h
   ·obtain rfl:=Option.some.inj h
    refine .inl ⟨l.length,e,hlast,q,by assumption,rfl,fun m e' hm hlt=>?_⟩
    rcases hidx m e' hm with h1|h1 <;>omega
   ·cases h
  ·rename_i q
   rcases zoh h with⟨k,e0,h1,h2,h3,h4,h5⟩|⟨h1,h2⟩
   ·have hk:k <l.length:=by have:=(List.getElem?_eq_some_iff.1 h1).1;simpa using this
    refine .inl ⟨k,e0,?_,h2,h3,h4,fun m e' hm hlt=>?_⟩
    ·rw[List.reverse_cons,List.getElem?_append_left (by simpa using hk)];exact h1
    ·rcases hidx m e' hm with h6|h6
     ·exact h5 m e' h6.2 hlt
     ·rw[h6.2];exact q
   ·refine .inr ⟨h1,fun m e' hm=>?_⟩
    rcases hidx m e' hm with h6|h6
    ·exact h2 m e' h6.2
    ·rw[h6.2];exact q
theorem znN{D:Nat→Bool}{f:Bk}{u:Nat}{x:AB}: ∀ {r:List Ent},lkB D f u r=some x→
 (∃ (k:Nat) (e:Ent),r.reverse[k]? =some e∧isB u e=true∧D k=true∧setBs (fun _=>none) e.bs u=some x∧ ∀ (m:Nat) (e':Ent),r.reverse[m]? =some e'→k <m→isB u e'=false)∨(f u=some x∧ ∀ (m:Nat) (e':Ent),r.reverse[m]? =some e'→isB u e'=false)
 |[],h=>.inr ⟨h,fun m e' q=>by simp at q⟩
 |e::l,h=>by
  simp only[lkB]at h
  have hlast:(e::l).reverse[l.length]? =some e:=by simp
  have hidx: ∀ (m:Nat) (e':Ent),(e::l).reverse[m]? =some e'→(m <l.length∧l.reverse[m]? =some e')∨(m=l.length∧e'=e):=by
   intro m e' hm
   have hlt:=(List.getElem?_eq_some_iff.1 hm).1
   simp only[List.length_reverse,List.length_cons]at hlt
   rw[List.reverse_cons]at hm
   by_cases q:m <l.length
   ·rw[List.getElem?_append_left (by simpa using q)]at hm;exact .inl ⟨q,hm⟩
   ·obtain rfl:m=l.length:=by omega
    rw[List.reverse_cons]at hlast
    rw[hlast]at hm
    exact .inr ⟨rfl,(Option.some.inj hm).symm⟩
  split at h
  ·rename_i q
   split at h
   ·refine .inl ⟨l.length,e,hlast,q,by assumption,h,fun m e' hm hlt=>?_⟩
    rcases hidx m e' hm with h1|h1 <;>omega
   ·cases h
  ·rename_i q
   rcases znN h with⟨k,e0,h1,h2,h3,h4,h5⟩|⟨h1,h2⟩
   ·have hk:k <l.length:=by have:=(List.getElem?_eq_some_iff.1 h1).1;simpa using this
    refine .inl ⟨k,e0,?_,h2,h3,h4,fun m e' hm hlt=>?_⟩
    ·rw[List.reverse_cons,List.getElem?_append_left (by simpa using hk)];exact h1
    ·rcases hidx m e' hm with h6|h6
     ·exact h5 m e' h6.2 hlt
     ·rw[h6.2];exact q
   ·refine .inr ⟨h1,fun m e' hm=>?_⟩
    rcases hidx m e' hm with h6|h6
    ·exact h2 m e' h6.2
    ·rw[h6.2];exact q
def rst(pt:List (List Nat))(s:AS)(r:List Ent)(i:Nat):AS:=⟨fun u=>lkE (pr pt i) (hideF pt i s.env) u r,fun b=>match zuH pt i b with
 |true=>none
 |false=>lkB (pr pt i) s.blk b r⟩
def onAll:List Ent→AS→AS
 |[],s=>s
 |e::l,s=>e.on (onAll l s)
theorem zkV(l:List Ent): ∀ (k:Nat) (s:AS),actF (fun _=>false) k l s=s:=by
 induction l with
 |nil=>intro _ _;rfl
 |cons a l ih=>intro k s;simp only[actF];exact ih _ _
theorem zlm(D:Nat→Bool)(e:Ent): ∀ (l:List Ent) (k:Nat) (s:AS),actF D k (l++[e]) s=match D (k+l.length)with|true=>e.on (actF D k l s)|false=>actF D k l s
 |[],k,s=>by simp only[List.nil_append,actF,List.length_nil,Nat.add_zero]
 |a::l,k,s=>by
  simp only[List.cons_append,actF,List.length_cons]
  rw[zlm D e l (k+1)]
  rw[show k+1+l.length=k+(l.length+1) by omega]
theorem zjc(s:AS): ∀ r:List Ent,actF (fun _=>true) 0 r.reverse s=onAll r s
 |[]=>rfl
 |e::l=>by rw[List.reverse_cons,zlm,zjc s l];rfl
def zqz(pt:List (List Nat))(o:Oper)(i:Nat):Bool:=
 (pt.getD i []).all (fun j=>Nat.ble 100000 j||Nat.blt j i&&o.after.toList.any (fun e=>Region.binds .any e&&Nat.blt e.on i&&(Nat.beq e.on j||pr pt e.on j)))&&o.after.toList.all (fun e=> !Region.binds .any e||Nat.blt e.on i)
def zhM(pt:List (List Nat)):Nat→List Oper→Bool
 |k,[]=>(pt.drop k).all List.isEmpty
 |k,o::l=>zqz pt o k&&zhM pt (k+1) l
theorem zjL{pt:List (List Nat)}: ∀ {l:List Oper} {k:Nat},zhM pt k l=true→ ∀ m o,l[m]? =some o→zqz pt o (k+m)=true
 |[],_,_,m,o,h=>by simp at h
 |o0::l,k,h,m,o,hm=>by
  simp only[zhM,Bool.and_eq_true]at h
  cases m with
  |zero=>obtain rfl:=Option.some.inj hm;exact h.1
  |succ m=>
   have:=zjL h.2 m o (by simpa using hm)
   rwa[Nat.add_right_comm,Nat.add_assoc]at this
def ze8(pt:List (List Nat))(s:AS)(ents:List Ent)(i:Nat)(ei:Ent)(ej:Ent):Bool:=
 (match ej.d with
  |some u=> !(isE u ei)&&(match(rst pt s (ents.take i).reverse i).env u with|some _=>false|none=>true)
  |none=>true)&&ej.bs.all (fun p=> !(isB p.1 ei)&&(match(rst pt s (ents.take i).reverse i).blk p.1 with|some _=>false|none=>true))
def newE(pt:List (List Nat))(s:AS)(ents:List Ent)(i:Nat)(ei:Ent):Bool:=
 ei.bs.all fun p=>match(rst pt s (ents.take i).reverse i).blk p.1 with
  |some _=>true
  |none=>(match s.blk p.1 with|some _=>false|none=>true)&&(ents.zipIdx.all fun q=>Nat.beq q.2 i|| !(isB p.1 q.1)||pr pt q.2 i)
def chk(pt:List (List Nat))(s:AS)(ents:List Ent):Bool:=
 ents.zipIdx.all fun p=>newE pt s ents p.2 p.1&&ents.zipIdx.all fun q=> !(Nat.blt p.2 q.2)||pr pt q.2 p.2||ze8 pt s ents p.2 p.1 q.1
section
variable {P:Program} {ty:Ty} {w0:B0} {nt:Nat} {s s':AS} {ops:Array Oper} {l:List Oper} {o:Oper} {K:AS→Prop} {C:Exit→AS→Prop} {pt:List (List Nat)} {ents:List Ent}
def zqt(P:Program)(w0:B0)(nt:Nat)(ops:Array Oper)(o:Oper)(r:AS)(v:AV)(bs:List (Nat×AB)):Prop:=
 (o.guard=none∧MStep P w0 nt o r v bs)∨ ∃ j b t,o.guard=some (j,b)∧(ops[j]?).bind (·.dst)=some t∧((r.env t=some (.bool b)∧MStep P w0 nt o r v bs)∨((r.env t=some (.bool (!b))∨r.env t=some (.tup []))∧v=.tup []∧bs=[]∧zt nt o.dst=true))
def WD(P:Program)(w0:B0)(nt:Nat)(ops:Array Oper)(pt:List (List Nat))(s:AS)(r:List Ent)(l:List Oper)(F:List Ent→Prop):Prop:=
 ∃ es:List Ent,es.length=l.length∧(∀ k o e,l[k]? =some o→es[k]? =some e→e.d=o.dst∧zqt P w0 nt ops o (rst pt s ((es.take k).reverse++r) (r.length+k)) e.v e.bs)∧F (es.reverse++r)
theorem zu7{r:List Ent}{F:List Ent→Prop}(h:F r):WD P w0 nt ops pt s r [] F:=⟨[],rfl,fun k o e h=>by simp at h,h⟩
theorem ztJ{r:List Ent}{F:List Ent→Prop}{v:AV}{bs:List (Nat×AB)}(h:zqt P w0 nt ops o (rst pt s r r.length) v bs)(q:WD P w0 nt ops pt s (⟨o.dst,v,bs⟩::r) l F):WD P w0 nt ops pt s r (o::l) F:=by
 obtain⟨es,h1,h2,h3⟩:=q
 refine⟨⟨o.dst,v,bs⟩::es,by simp[h1],fun k o' e ho he=>?_,by simpa using h3⟩
 cases k with
 |zero=>
  obtain rfl:=Option.some.inj ho
  obtain rfl:=Option.some.inj he
  exact⟨rfl,h⟩
 |succ k=>
  have:=h2 k o' e (by simpa using ho) (by simpa using he)
  simp only[List.length_cons]at this
  rw[List.take_succ_cons,show r.length+(k+1)=r.length+1+k by omega,List.reverse_cons,List.append_assoc]
  exact this
theorem zt9(h:chk pt s ents=true){i:Nat}{e:Ent}(hi:ents[i]? =some e):newE pt s ents i e=true:=by
 have:=List.all_eq_true.1 h (e,i) (by rw[List.mem_zipIdx_iff_getElem?];exact hi)
 simp only[Bool.and_eq_true]at this
 exact this.1
theorem zf6(h:chk pt s ents=true){i j:Nat}{ei ej:Ent}(hi:ents[i]? =some ei)(hj:ents[j]? =some ej)(hlt:i <j)(hp:pr pt j i=false):ze8 pt s ents i ei ej=true:=by
 have:=List.all_eq_true.1 h (ei,i) (by rw[List.mem_zipIdx_iff_getElem?];exact hi)
 simp only[Bool.and_eq_true]at this
 have:=List.all_eq_true.1 this.2 (ej,j) (by rw[List.mem_zipIdx_iff_getElem?];exact hj)
 simp only[Bool.or_eq_true,Bool.not_eq_true']at this
 rcases this with(h1|h1)|h1
 ·have:Nat.blt i j=true:=by simp[Nat.blt_eq,hlt]
  rw[h1]at this;cases this
 ·rw[hp]at h1;cases h1
 ·exact h1
theorem zu4(hc:chk pt s ents=true){D:Nat→Bool}{i:Nat}{ei:Ent}(hi:ents[i]? =some ei)(hD: ∀ j,pr pt i j=true→D j=true)(hni:D i=false)(hcl: ∀ m,D m=true→pr pt m i=true→D i=true):
 (rst pt s (ents.take i).reverse i).le (actF D 0 ents s):=by
 have htk: ∀ (m:Nat) (e:Ent),ents[m]? =some e→m <i→(ents.take i).reverse.reverse[m]? =some e:=fun m e h1 h2=>by
  rw[List.reverse_reverse,List.getElem?_take,if_pos h2];exact h1
 constructor
 ·intro u x hx
  have hx0:(rst pt s (ents.take i).reverse i).env u=some x:=hx
  have hlate: ∀ (m:Nat) (e:Ent),ents[m]? =some e→isE u e=true→i≤m→D m=false:=by
   intro m e hm hE hge
   rcases Nat.eq_or_lt_of_le hge with q|q
   ·rw[←q];exact hni
   ·cases qd:D m with
    |false=>rfl
    |true=>
     exfalso
     have hnp:pr pt m i=false:=by
      cases qp:pr pt m i with
      |false=>rfl
      |true=>rw[hcl m qd qp]at hni;cases hni
     have:=zf6 hc hi hm q hnp
     simp only[ze8,zmt hE,Bool.and_eq_true]at this
     have:=this.1.2
     rw[hx0]at this
     cases this
  rcases zoh (show lkE (pr pt i) (hideF pt i s.env) u (ents.take i).reverse=some x from hx)with⟨k,e,h1,h2,h3,h4,h5⟩|⟨h1,h2⟩
  ·have hk:k <i:=by have:=(List.getElem?_eq_some_iff.1 h1).1;simp at this;omega
   have he:ents[k]? =some e:=by rw[List.reverse_reverse,List.getElem?_take,if_pos hk]at h1;exact h1
   rw[h4]
   refine zi9 h2 (hD k h3) ents 0 s (Nat.zero_le _) (by simpa using he) (fun m e' hm hlt hE=>?_)
   rw[Nat.zero_add]at hlt⊢
   rcases Nat.lt_or_ge m i with q|q
   ·rw[h5 m e' (htk m e' hm q) hlt]at hE;cases hE
   ·exact hlate m e' hm hE q
  ·rw[←zqd h1]
   have:=zfP (u:=u) (D:=D) (D':=fun _=>false) ents 0 s s rfl (fun m e hm hE=>by
    rw[Nat.zero_add]
    rcases Nat.lt_or_ge m i with q|q
    ·rw[h2 m e (htk m e hm q)]at hE;cases hE
    ·exact hlate m e hm hE q)
   rw[this,zkV]
 ·intro u x hx
  have hx0:(rst pt s (ents.take i).reverse i).blk u=some x:=hx
  have hlate: ∀ (m:Nat) (e:Ent),ents[m]? =some e→isB u e=true→i≤m→D m=false:=by
   intro m e hm hE hge
   rcases Nat.eq_or_lt_of_le hge with q|q
   ·rw[←q];exact hni
   ·cases qd:D m with
    |false=>rfl
    |true=>
     exfalso
     have hnp:pr pt m i=false:=by
      cases qp:pr pt m i with
      |false=>rfl
      |true=>rw[hcl m qd qp]at hni;cases hni
     have:=zf6 hc hi hm q hnp
     simp only[ze8,Bool.and_eq_true]at this
     obtain⟨p,hp1,hp2⟩:=List.any_eq_true.1 hE
     have:=List.all_eq_true.1 this.2 p hp1
     rw[Nat.eq_of_beq_eq_true hp2]at this
     simp only[Bool.and_eq_true]at this
     have:=this.2
     rw[hx0]at this
     cases this
  have hx1:lkB (pr pt i) s.blk u (ents.take i).reverse=some x:=by
   have h0:(match zuH pt i u with
    |true=>none
    |false=>lkB (pr pt i) s.blk u (ents.take i).reverse)=some x:=hx
   split at h0
   ·cases h0
   ·exact h0
  rcases znN hx1 with⟨k,e,h1,h2,h3,h4,h5⟩|⟨h1,h2⟩
  ·have hk:k <i:=by have:=(List.getElem?_eq_some_iff.1 h1).1;simp at this;omega
   have he:ents[k]? =some e:=by rw[List.reverse_reverse,List.getElem?_take,if_pos hk]at h1;exact h1
   rw[←h4]
   refine zjJ h2 (hD k h3) ents 0 s (Nat.zero_le _) (by simpa using he) (fun m e' hm hlt hE=>?_) _
   rw[Nat.zero_add]at hlt⊢
   rcases Nat.lt_or_ge m i with q|q
   ·rw[h5 m e' (htk m e' hm q) hlt]at hE;cases hE
   ·exact hlate m e' hm hE q
  ·rw[←h1]
   have:=zev (i:=u) (D:=D) (D':=fun _=>false) ents 0 s s rfl (fun m e hm hE=>by
    rw[Nat.zero_add]
    rcases Nat.lt_or_ge m i with q|q
    ·rw[h2 m e (htk m e hm q)]at hE;cases hE
    ·exact hlate m e hm hE q)
   rw[this,zkV]
theorem zt7(hc:chk pt s ents=true){D:Nat→Bool}{i:Nat}{ei:Ent}(hi:ents[i]? =some ei)(hni:D i=false)(hcl: ∀ m,D m=true→pr pt m i=true→D i=true)(p:Nat×AB)(hp:p∈ei.bs)(hn:(rst pt s (ents.take i).reverse i).blk p.1=none):
 (actF D 0 ents s).blk p.1=none:=by
 have:=List.all_eq_true.1 (zt9 hc hi) p hp
 rw[hn]at this
 simp only[Bool.and_eq_true]at this
 obtain⟨h1,h2⟩:=this
 have h3:s.blk p.1=none:=by
  cases q:s.blk p.1 with
  |none=>rfl
  |some k=>rw[q]at h1;cases h1
 have e1:(actF (fun _=>false) 0 ents s).blk p.1=s.blk p.1:=by
  have: ∀ (l:List Ent) (k:Nat) (s:AS),actF (fun _=>false) k l s=s:=fun l=>by
   induction l with
   |nil=>intro _ _;rfl
   |cons a l ih=>intro k s;simp only[actF];exact ih _ _
  rw[this]
 rw[←h3, ←e1]
 refine zev ents 0 s s rfl (fun m e hm hE=>?_)
 rw[Nat.zero_add]
 cases qd:D m with
 |false=>rfl
 |true=>
  exfalso
  have:=List.all_eq_true.1 h2 (e,m) (by rw[List.mem_zipIdx_iff_getElem?];exact hm)
  simp only[Bool.or_eq_true,Bool.not_eq_true']at this
  rcases this with(q|q)|q
  ·rw[Nat.eq_of_beq_eq_true q]at qd;rw[qd]at hni;cases hni
  ·rw[hE]at q;cases q
  ·rw[hcl m qd q]at hni;cases hni
theorem zte(hc:chk pt s ents=true){D D':Nat→Bool}{i:Nat}{ei:Ent}(hi:ents[i]? =some ei)(hni:D i=false)(hcl: ∀ m,D m=true→pr pt m i=true→D i=true)(hD: ∀ m,m≠i→D' m=D m)(hDi:D' i=true):
 actF D' 0 ents s=ei.on (actF D 0 ents s):=by
 have hnp: ∀ m,D m=true→pr pt m i=false:=fun m qd=>by
  cases qp:pr pt m i with
  |false=>rfl
  |true=>rw[hcl m qd qp]at hni;cases hni
 have henv:(actF D' 0 ents s).env=(ei.on (actF D 0 ents s)).env:=by
  funext u
  cases q:isE u ei with
  |true=>
   rw[zeN q]
   refine zi9 q hDi ents 0 s (Nat.zero_le _) (by simpa using hi) (fun m e' hm hlt hE=>?_)
   rw[Nat.zero_add]at hlt⊢
   rw[hD m (by omega)]
   cases qd:D m with
   |false=>rfl
   |true=>
    exfalso
    have:=zf6 hc hi hm hlt (hnp m qd)
    simp only[ze8,zmt hE,Bool.and_eq_true,Bool.not_eq_true']at this
    rw[q]at this
    cases this.1.1
  |false=>
   rw[zjs q]
   refine zfP ents 0 s s rfl (fun m e hm hE=>?_)
   rw[Nat.zero_add]
   refine hD m (fun qm=>?_)
   subst qm
   rw[hm]at hi
   obtain rfl:=Option.some.inj hi
   rw[hE]at q;cases q
 have hblk:(actF D' 0 ents s).blk=(ei.on (actF D 0 ents s)).blk:=by
  funext b
  cases q:isB b ei with
  |true=>
   rw[zj7]
   refine zjJ q hDi ents 0 s (Nat.zero_le _) (by simpa using hi) (fun m e' hm hlt hE=>?_) _
   rw[Nat.zero_add]at hlt⊢
   rw[hD m (by omega)]
   cases qd:D m with
   |false=>rfl
   |true=>
    exfalso
    have:=zf6 hc hi hm hlt (hnp m qd)
    simp only[ze8,Bool.and_eq_true]at this
    obtain⟨p,hp1,hp2⟩:=List.any_eq_true.1 hE
    have:=List.all_eq_true.1 this.2 p hp1
    rw[Nat.eq_of_beq_eq_true hp2]at this
    simp only[Bool.and_eq_true,Bool.not_eq_true']at this
    rw[q]at this
    cases this.1
  |false=>
   rw[zj5 q]
   refine zev ents 0 s s rfl (fun m e hm hE=>?_)
   rw[Nat.zero_add]
   refine hD m (fun qm=>?_)
   subst qm
   rw[hm]at hi
   obtain rfl:=Option.some.inj hi
   rw[hE]at q;cases q
 have mk: ∀ x y:AS,x.env=y.env→x.blk=y.blk→x=y:=fun x y h1 h2=>by cases x;cases y;cases h1;cases h2;rfl
 exact mk _ _ henv hblk
theorem zqv(hpt:zhM pt 0 ops.toList=true){i j:Nat}{o:Oper}(ho:ops[i]? =some o)(h:pr pt i j=true): ∃ e∈o.after,Region.binds .any e=true∧e.on <i∧(e.on=j∨pr pt e.on j=true):=by
 simp only[pr,Bool.and_eq_true]at h
 obtain⟨h,hjl⟩:=h
 obtain⟨x,hx,hj⟩:=List.any_eq_true.1 h
 have hj:=Nat.eq_of_beq_eq_true hj
 subst hj
 have:=zjL hpt i o (by simpa using ho)
 rw[Nat.zero_add]at this
 simp only[zqz,Bool.and_eq_true]at this
 have:=List.all_eq_true.1 this.1 j hx
 have hnb:Nat.ble 100000 j=false:=by
  have:=zfF hjl
  cases q:Nat.ble 100000 j with
  |false=>rfl
  |true=>have:=Nat.le_of_ble_eq_true q;omega
 rw[hnb,Bool.false_or]at this
 simp only[Bool.and_eq_true]at this
 obtain⟨e,he,h2⟩:=List.any_eq_true.1 this.2
 simp only[Bool.and_eq_true,Bool.or_eq_true]at h2
 exact⟨e,by simpa using he,h2.1.1,zfF h2.1.2,h2.2.imp Nat.eq_of_beq_eq_true id⟩
theorem zud(hpt:zhM pt 0 ops.toList=true){i:Nat}{o:Oper}(ho:ops[i]? =some o){e:Edge}(he:e∈o.after)(hb:Region.binds .any e=true):e.on <i:=by
 have:=zjL hpt i o (by simpa using ho)
 rw[Nat.zero_add]at this
 simp only[zqz,Bool.and_eq_true]at this
 have:=List.all_eq_true.1 this.2 e (by simpa using he)
 rw[hb]at this
 exact zfF (by simpa using this)
def zoZ(ops:Array Oper)(listed:Array Bool):Prop:= ∀ j oj,ops[j]? =some oj→listed.getD j false=true→ ∀ e∈oj.after,Region.binds .any e=true→listed.getD e.on false=true
theorem zkQ(hpt:zhM pt 0 ops.toList=true){listed:Array Bool}(hc:zoZ ops listed)(hsz:listed.size=ops.size): ∀ i,listed.getD i false=true→ ∀ j,pr pt i j=true→listed.getD j false=true:=by
 intro i
 induction i using Nat.strongRecOn with
 |_ i ih=>
  intro hi j hj
  have hlt:i <ops.size:=by
   rcases Nat.lt_or_ge i listed.size with q|q
   ·omega
   ·rw[Array.getD_eq_getD_getElem?,Array.getElem?_eq_none q]at hi;cases hi
  obtain⟨e,he,hb,h1,h2⟩:=zqv hpt (o:=ops[i]) (by simp[hlt]) hj
  have:=hc i ops[i] (by simp[hlt]) hi e he hb
  rcases h2 with h2|h2
  ·rw[←h2];exact this
  ·exact ih e.on h1 this j h2
theorem zsm(hpt:zhM pt 0 ops.toList=true){listed:Array Bool}(hc:zoZ ops listed)(hsz:listed.size=ops.size){i:Nat}(hr:i∈Region.ready .any ops listed): ∀ j,pr pt i j=true→listed.getD j false=true:=by
 intro j hj
 obtain⟨_,o,ho,hall⟩:=mem_ready.1 hr
 obtain⟨e,he,hb,h1,h2⟩:=zqv hpt ho hj
 have:=hall e he hb
 rcases h2 with h2|h2
 ·rw[←h2];exact this
 ·exact zkQ hpt hc hsz e.on this j h2
theorem zoX(hpt:zhM pt 0 ops.toList=true){listed:Array Bool}(hsz:listed.size=ops.size)(h:Region.ready .any ops listed=[]): ∀ i,i <ops.size→listed.getD i false=true:=by
 intro i
 induction i using Nat.strongRecOn with
 |_ i ih=>
  intro hi
  cases q:listed.getD i false with
  |true=>rfl
  |false=>
   exfalso
   have:i∈Region.ready .any ops listed:=by
    refine mem_ready.2 ⟨?_,ops[i],by simp[hi],fun e he hb=>?_⟩
    ·rw[Array.getD_eq_getD_getElem?]at q⊢
     rw[Array.getElem?_eq_getElem (by omega)]at q⊢
     exact q
    ·have hlt:=zud hpt (i:=i) (o:=ops[i]) (Array.getElem?_eq_getElem hi) he hb
     exact ih e.on hlt (by omega)
   rw[h]at this
   cases this
theorem zmV(hpt:zhM pt 0 ops.toList=true)(hl:ents.length=ops.size)(hc:chk pt s ents=true)(hst: ∀ (i:Nat) (o:Oper) (e:Ent),ops[i]? =some o→ents[i]? =some e→e.d=o.dst∧zqt P w0 nt ops o (rst pt s (ents.take i).reverse i) e.v e.bs){Q:Exit→Act→World→Prop}
 (hq: ∀ β S a w,SR w0 nt β S (actF (fun _=>true) 0 ents s) a w→Q .normal a w):
 ∀ (fuel:Nat) (listed:Array Bool) (β:Bt) (S:St) (a:Act) (w:World),listed.size=ops.size→zoZ ops listed→listed.toList.count false≤fuel→SR w0 nt β S (actF (fun j=>listed.getD j false) 0 ents s) a w→wpAny P .any ops Q fuel listed a w:=by
 have hall: ∀ (listed:Array Bool) (β:Bt) (S:St) (a:Act) (w:World),(∀ i,i <ops.size→listed.getD i false=true)→SR w0 nt β S (actF (fun j=>listed.getD j false) 0 ents s) a w→Q .normal a w:=by
  intro listed β S a w h hs
  have e1:actF (fun j=>listed.getD j false) 0 ents s=actF (fun _=>true) 0 ents s:=by
   have hm: ∀ (m:Nat) (e:Ent),ents[m]? =some e→listed.getD (0+m) false=true:=fun m e hm=>by
    rw[Nat.zero_add];exact h m (by have:=(List.getElem?_eq_some_iff.1 hm).1;omega)
   show AS.mk _ _=AS.mk _ _
   congr 1
   ·funext u;exact zfP ents 0 s s rfl (fun m e q _=>hm m e q)
   ·funext u;exact zev ents 0 s s rfl (fun m e q _=>hm m e q)
  rw[e1]at hs
  exact hq β S a w hs
 intro fuel
 induction fuel with
 |zero=>
  intro listed β S a w hsz hcl hcnt hs
  have hfull: ∀ i,i <ops.size→listed.getD i false=true:=by
   intro i hi
   cases q:listed.getD i false with
   |true=>rfl
   |false=>
    have:false∈listed.toList:=by
     rw[Array.getD_eq_getD_getElem?,Array.getElem?_eq_getElem (by omega)]at q
     simp only[Option.getD_some]at q
     rw[←q];exact Array.getElem_mem_toList (by omega)
    have:=List.count_pos_iff.2 this
    omega
  refine⟨?_,hall listed β S a w hfull hs⟩
  rw[List.eq_nil_iff_forall_not_mem]
  intro i hi
  obtain⟨h1,o,ho,_⟩:=mem_ready.1 hi
  have hlt:i <ops.size:=(Array.getElem?_eq_some_iff.1 ho).1
  have:=hfull i hlt
  rw[Array.getD_eq_getD_getElem?,Array.getElem?_eq_getElem (by omega)]at h1 this
  simp only[Option.getD_some]at h1 this
  rw[this]at h1;cases h1
 |succ fuel ih=>
  intro listed β S a w hsz hcl hcnt hs
  refine⟨fun h=>hall listed β S a w (zoX hpt hsz h) hs,fun i hi=>?_⟩
  obtain⟨h1,o,ho,hedges⟩:=mem_ready.1 hi
  have hlt:i <ops.size:=(Array.getElem?_eq_some_iff.1 ho).1
  obtain⟨e,he⟩: ∃ e,ents[i]? =some e:=⟨ents[i]'(by omega),by simp[hl,hlt]⟩
  obtain⟨hd,hds⟩:=hst i o e ho he
  have hni:listed.getD i false=false:=by
   rw[Array.getD_eq_getD_getElem?,Array.getElem?_eq_getElem (by omega)]at h1⊢
   exact h1
  have hclo: ∀ m,listed.getD m false=true→pr pt m i=true→listed.getD i false=true:=fun m q1 q2=>zkQ hpt hcl hsz m q1 i q2
  have hle:=zu4 hc he (D:=fun j=>listed.getD j false) (zsm hpt hcl hsz hi) hni hclo
  have hput:=zte hc he hni hclo (D:=fun j=>listed.getD j false) (D':=fun j=>(listed.setIfInBounds i true).getD j false)
   (fun m hm=>getD_set_ne false (Ne.symm hm)) (by simp[hsz,hlt])
  have hnext: ∀ β' S' a' w',SR w0 nt β' S' ((actF (fun j=>listed.getD j false) 0 ents s).eff o.dst e.v e.bs) a' w'→wpAny P .any ops Q fuel (listed.setIfInBounds i true) a' w':=by
   intro β' S' a' w' hs'
   refine ih (listed.setIfInBounds i true) β' S' a' w' (by simpa using hsz) ?_ ?_ ?_
   ·intro j oj hj hlj ed hed hb
    by_cases q:j=i
    ·subst q
     rw[ho]at hj
     obtain rfl:=Option.some.inj hj
     exact getD_set_true (hedges ed hed hb)
    ·rw[getD_set_ne false (Ne.symm q)]at hlj
     exact getD_set_true (hcl j oj hj hlj ed hed hb)
   ·have hcs:(listed.setIfInBounds i true).toList.count false+1=listed.toList.count false:=by
     have hi':i <listed.toList.length:=by rw[Array.length_toList,hsz];exact hlt
     rw[Array.toList_setIfInBounds,List.count_set hi']
     have:listed.toList[i]=false:=by
      rw[Array.getD_eq_getD_getElem?,Array.getElem?_eq_getElem (by omega)]at hni
      simpa using hni
     rw[this]
     have:=List.count_pos_iff.2 (show false∈listed.toList by rw[←this];exact List.getElem_mem hi')
     rw[if_pos (show(false==false)=true from rfl),if_neg (show ¬(true==false)=true by decide)]
     omega
    omega
   ·rw[hput]
    have:e.on (actF (fun j=>listed.getD j false) 0 ents s)=(actF (fun j=>listed.getD j false) 0 ents s).eff o.dst e.v e.bs:=by rw[Ent.on,hd]
    rw[this];exact hs'
  have hm:MStep P w0 nt o (rst pt s (ents.take i).reverse i) e.v e.bs→o.wp P a w (wpAny P .any ops Q fuel (listed.setIfInBounds i true)) Q:=fun hm=>
   hm _ hle (fun p hp hn=>zt7 hc he (D:=fun j=>listed.getD j false) hni hclo p hp hn) β S a w _ Q hs (fun β' S' a' w' hs'=>hnext β' S' a' w' hs')
  unfold wpOp
  simp only[ho]
  rcases hds with⟨hg,hms⟩|⟨j,b,t,hg,hj,h|h⟩
  ·rw[if_pos (by simp[Region.wanted,hg])]
   exact .inl (hm hms)
  ·rw[if_pos (by simp only[Region.wanted,hg,zg3 hs hj (hle.1 _ _ h.1),beq_self_eq_true])]
   exact .inl (hm h.2)
  ·obtain⟨h2,h3,h4,h5⟩:=h
   rw[if_neg (by
    rcases h2 with h2|h2
    ·simp only[Region.wanted,hg,zg3 hs hj (hle.1 _ _ h2)];cases b <;>decide
    ·simp only[Region.wanted,hg,zm5 hs hj (hle.1 _ _ h2)];cases b <;>decide)]
   refine hnext β S _ w ?_
   rw[h3,h4]
   exact hs.put h5 zkl
theorem SR.drawn{β:Bt}{S:St}{a:Act}{w:World}(h:SR w0 nt β S s a w):SR w0 nt β S s a {w with drawn:=w.drawn+1}:=
 h.ext ⟨rfl,rfl,rfl,Nat.le_refl _,fun _ _=>rfl⟩
theorem ztk(pt:List (List Nat)){id:Nat}(hm:P.follows .mixedOrders=true)(hpt:zhM pt 0 ops.toList=true)
 (h:WD P w0 nt ops pt s [] ops.toList (fun r=>chk pt s r.reverse=true∧C .normal (onAll r s))):AC P w0 nt (.region id ops true) s C:=by
 intro β S a w Q hs hq
 obtain⟨es,h1,h2,h3,h4⟩:=h
 simp only[List.append_nil,List.length_nil,Nat.zero_add]at h2 h3 h4
 rw[List.reverse_reverse]at h3
 rw[←zjc,List.reverse_reverse]at h4
 have hl:es.length=ops.size:=by simpa using h1
 refine wp_region_any hm (zmV hpt hl h3 (fun i o e ho he=>h2 i o e (by simpa using ho) he) (fun β' S' a' w' hs'=>hq .normal β' S' a' w' _ h4 hs') ops.size _ β S a _ (by simp) ?_ ?_ ?_)
 ·intro j oj _ hl
  simp only[Array.getD_eq_getD_getElem?]at hl
  rcases Nat.lt_or_ge j ops.size with q|q
  ·simp[q]at hl
  ·simp[Nat.not_lt.2 q]at hl
 ·refine Nat.le_trans List.count_le_length ?_
  simp
 ·have e1:actF (fun j=>(Array.replicate ops.size false).getD j false) 0 es s=s:=by
   have hD:(fun j=>(Array.replicate ops.size false).getD j false)=fun _=>false:=by
    funext j
    rw[Array.getD_eq_getD_getElem?]
    rcases Nat.lt_or_ge j ops.size with q|q
    ·simp[q]
    ·simp[Nat.not_lt.2 q]
   rw[hD]
   have: ∀ (l:List Ent) (k:Nat) (s:AS),actF (fun _=>false) k l s=s:=fun l=>by
    induction l with
    |nil=>intro _ _;rfl
    |cons a l ih=>intro k s;simp only[actF];exact ih _ _
   exact this _ _ _
  rw[e1]
  exact hs.drawn
end
end Go.Aw
namespace Go.Aw
open Go.RowKit
inductive Tm where
 |mk (kind num:Int) (kids:List Tm)
 deriving Inhabited
def Tm.kind:Tm→Int| .mk k _ _=>k
def Tm.num:Tm→Int| .mk _ n _=>n
def Tm.kids:Tm→List Tm| .mk _ _ l=>l
mutual
def rT:Tm→List AV
 | .mk k n l=>[.int .i64 k,.int .i64 n,.lst 3 (rsT l) false]
def rsT:List Tm→List (List AV)
 |[]=>[]
 |t::l=>rT t::rsT l
end
abbrev cT(t:Tm):List AV:=[.int .i64 t.kind,.int .i64 t.num,.lst 3 (rsT t.kids) false]
abbrev aT(t:Tm):AV:=.agg (cT t)
abbrev sT(l:List Tm):AV:=.lst 3 (rsT l) false
theorem zfl(t:Tm):rT t=cT t:=by cases t;rfl
theorem zbq(l:List Tm):rsT l=l.map rT:=by
 induction l with
 |nil=>rfl
 |cons t l ih=>simp[rsT,ih]
theorem zeb(l:List Tm):(rsT l).length=l.length:=by rw[zbq,List.length_map]
theorem zac{l:List Tm}{i:Nat}{t:Tm}(h:l[i]? =some t):(rsT l)[i]? =some (cT t):=by rw[zbq,List.getElem?_map,h, ←zfl];rfl
theorem zas(l r:List Tm):rsT (l++r)=rsT l++rsT r:=by simp[zbq]
theorem rs1(t:Tm):rsT [t]=[cT t]:=by simp[rsT,zfl]
theorem rs2(t u:Tm):rsT [t,u]=[cT t,cT u]:=by simp[rsT,zfl]
theorem rs3(t u v:Tm):rsT [t,u,v]=[cT t,cT u,cT v]:=by simp[rsT,zfl]
theorem rsc(t:Tm)(l:List Tm):rsT (t::l)=cT t::rsT l:=by simp[rsT,zfl]
mutual
def Tm.size:Tm→Nat
 | .mk _ _ l=>1+sizes l
def sizes:List Tm→Nat
 |[]=>0
 |t::l=>t.size+sizes l
end
theorem Tm.size_eq(t:Tm):t.size=1+sizes t.kids:=by cases t;simp[Tm.size,Tm.kids]
theorem zax(l r:List Tm):sizes (l++r)=sizes l+sizes r:=by
 induction l with
 |nil=>simp[sizes]
 |cons t l ih=>simp[sizes,ih];omega
theorem Tm.size_pos(t:Tm):1≤t.size:=by rw[t.size_eq];omega
theorem zK{l:List Tm}{t:Tm}(h:t∈l):t.size≤sizes l:=by
 induction l with
 |nil=>cases h
 |cons a l ih=>
  simp only[sizes]
  rcases List.mem_cons.1 h with rfl|h
  ·omega
  ·have:=ih h;omega
theorem zM(l:List Tm):l.length≤sizes l:=by
 induction l with
 |nil=>simp
 |cons a l ih=>
  simp only[sizes,List.length_cons]
  have:=a.size_pos;omega
theorem zb1(l:List Tm)(j:Nat):sizes (l.take j)≤sizes l:=by
 have:=zax (l.take j) (l.drop j)
 rw[List.take_append_drop]at this;omega
theorem zdp{l:List Tm}{j:Nat}{t:Tm}(h:l[j]? =some t):sizes (l.take (j+1))=sizes (l.take j)+t.size:=by
 rw[List.take_add_one,h,Option.toList_some,zax];simp[sizes]
mutual
def Tm.depth:Tm→Nat
 | .mk _ _ l=>zbW l+1
def zbW:List Tm→Nat
 |[]=>0
 |t::l=>max t.depth (zbW l)
end
theorem Tm.depth_eq(t:Tm):t.depth=zbW t.kids+1:=by cases t;simp[Tm.depth,Tm.kids]
theorem zky(l r:List Tm):zbW (l++r)=max (zbW l) (zbW r):=by
 induction l with
 |nil=>simp[zbW]
 |cons t l ih=>simp only[List.cons_append,zbW,ih,Nat.max_assoc]
theorem zet{l:List Tm}{j:Nat}{t:Tm}(h:l[j]? =some t):zbW (l.take (j+1))=max (zbW (l.take j)) t.depth:=by
 rw[List.take_add_one,h,Option.toList_some,zky];simp[zbW]
mutual
theorem Tm.depth_le: ∀ t:Tm,t.depth≤t.size
 | .mk _ _ l=>by have:=zlc l;simp only[Tm.depth,Tm.size];omega
theorem zlc: ∀ l:List Tm,zbW l≤sizes l
 |[]=>by simp[zbW]
 |t::l=>by have:=t.depth_le;have:=zlc l;simp only[zbW,sizes];omega
end
def zbk(l:List Tm):Bool:=decide (60 <l.length)||l.any (fun t=>decide (300 <t.depth))||decide (9000 <sizes l)
mutual
def eqT:Tm→Tm→Bool
 | .mk k n l,.mk k' n' l'=>decide (k=k')&&decide (n=n')&&zo9 l l'
def zo9:List Tm→List Tm→Bool
 |[],[]=>true
 |a::l,b::r=>eqT a b&&zo9 l r
 |_,_=>false
end
mutual
theorem zl0: ∀ a b:Tm,eqT a b=true↔a=b
 | .mk k n l,.mk k' n' l'=>by simp[eqT,zn5 l l',and_assoc]
theorem zn5: ∀ a b:List Tm,zo9 a b=true↔a=b
 |[],[]=>by simp[zo9]
 |a::l,b::r=>by simp[zo9,zl0 a b,zn5 l r]
 |[],b::r=>by simp[zo9]
 |a::l,[]=>by simp[zo9]
end
instance:DecidableEq Tm:=fun a b=>if h:eqT a b=true then isTrue ((zl0 a b).1 h)else isFalse (fun q=>h ((zl0 a b).2 q))
structure Ar where
 rc:Bool
 typ:Tm
 dom:List Tm
 sort:Int
 idx:List Tm
 deriving DecidableEq
def Ar.size(a:Ar):Nat:=a.typ.size+sizes a.dom+sizes a.idx
def zaH:List Ar→Nat
 |[]=>0
 |a::l=>a.size+zaH l
theorem Ar.size_pos(a:Ar):1≤a.size:=by have:=a.typ.size_pos;unfold Ar.size;omega
theorem zaM{l:List Ar}{t:Ar}(h:t∈l):t.size≤zaH l:=by
 induction l with
 |nil=>cases h
 |cons a l ih=>
  simp only[zaH]
  rcases List.mem_cons.1 h with rfl|h
  ·omega
  ·have:=ih h;omega
theorem zae(l:List Ar):l.length≤zaH l:=by
 induction l with
 |nil=>simp
 |cons a l ih=>
  simp only[zaH,List.length_cons]
  have:=a.size_pos;omega
abbrev cA(a:Ar):List AV:=[.bool a.rc,.int .i64 a.typ.kind,.int .i64 a.typ.num,.lst 3 (rsT a.typ.kids) false,.lst 3 (rsT a.dom) false,.int .i64 a.sort,.lst 3 (rsT a.idx) false]
def zX:List Ar→List (List AV)
 |[]=>[]
 |a::l=>cA a::zX l
abbrev aA(a:Ar):AV:=.agg (cA a)
abbrev sA(l:List Ar):AV:=.lst 7 (zX l) false
theorem zf7(l:List Ar):zX l=l.map cA:=by
 induction l with
 |nil=>rfl
 |cons t l ih=>simp[zX,ih]
theorem zN(l:List Ar):(zX l).length=l.length:=by rw[zf7,List.length_map]
theorem za6{l:List Ar}{i:Nat}{t:Ar}(h:l[i]? =some t):(zX l)[i]? =some (cA t):=by rw[zf7,List.getElem?_map,h];rfl
structure Cn where
 sort:Int
 args:List Ar
 idx:List Tm
 dec:Tm
 deriving DecidableEq
def Cn.size(c:Cn):Nat:=zaH c.args+sizes c.idx+c.dec.size
def zbg:List Cn→Nat
 |[]=>0
 |a::l=>a.size+zbg l
theorem Cn.size_pos(a:Cn):1≤a.size:=by have:=a.dec.size_pos;unfold Cn.size;omega
theorem zaB{l:List Cn}{t:Cn}(h:t∈l):t.size≤zbg l:=by
 induction l with
 |nil=>cases h
 |cons a l ih=>
  simp only[zbg]
  rcases List.mem_cons.1 h with rfl|h
  ·omega
  ·have:=ih h;omega
theorem zak(l:List Cn):l.length≤zbg l:=by
 induction l with
 |nil=>simp
 |cons a l ih=>
  simp only[zbg,List.length_cons]
  have:=a.size_pos;omega
abbrev cC(c:Cn):List AV:=[.int .i64 c.sort,.lst 7 (zX c.args) false,.lst 3 (rsT c.idx) false,.int .i64 c.dec.kind,.int .i64 c.dec.num,.lst 3 (rsT c.dec.kids) false]
def rsC:List Cn→List (List AV)
 |[]=>[]
 |a::l=>cC a::rsC l
abbrev aC(c:Cn):AV:=.agg (cC c)
abbrev sC(l:List Cn):AV:=.lst 6 (rsC l) false
theorem zqu(l:List Cn):rsC l=l.map cC:=by
 induction l with
 |nil=>rfl
 |cons t l ih=>simp[rsC,ih]
theorem zZ(l:List Cn):(rsC l).length=l.length:=by rw[zqu,List.length_map]
theorem zby{l:List Cn}{i:Nat}{t:Cn}(h:l[i]? =some t):(rsC l)[i]? =some (cC t):=by rw[zqu,List.getElem?_map,h];rfl
structure Cd where
 kind:Int
 typ:Tm
 dom:List Tm
 sort:Int
 idx:List Tm
 dec:Tm
 deriving DecidableEq
def Cd.size(c:Cd):Nat:=c.typ.size+sizes c.dom+sizes c.idx+c.dec.size
def zu9:List Cd→Nat
 |[]=>0
 |a::l=>a.size+zu9 l
theorem Cd.size_pos(a:Cd):1≤a.size:=by have:=a.dec.size_pos;unfold Cd.size;omega
abbrev cD(c:Cd):List AV:=[.int .i64 c.kind,.int .i64 c.typ.kind,.int .i64 c.typ.num,.lst 3 (rsT c.typ.kids) false,.lst 3 (rsT c.dom) false,.int .i64 c.sort,.lst 3 (rsT c.idx) false,.int .i64 c.dec.kind,.int .i64 c.dec.num,.lst 3 (rsT c.dec.kids) false]
def rsD:List Cd→List (List AV)
 |[]=>[]
 |a::l=>cD a::rsD l
abbrev aD(c:Cd):AV:=.agg (cD c)
abbrev sD(l:List Cd):AV:=.lst 10 (rsD l) false
theorem zv2(l:List Cd):rsD l=l.map cD:=by
 induction l with
 |nil=>rfl
 |cons t l ih=>simp[rsD,ih]
structure Sr where
 idx:List Ar
 level:Int
 dec:Bool
 decT:Tm
 deriving DecidableEq
def Sr.size(c:Sr):Nat:=zaH c.idx+c.decT.size
def zbh:List Sr→Nat
 |[]=>0
 |a::l=>a.size+zbh l
theorem Sr.size_pos(a:Sr):1≤a.size:=by have:=a.decT.size_pos;unfold Sr.size;omega
theorem zat{l:List Sr}{t:Sr}(h:t∈l):t.size≤zbh l:=by
 induction l with
 |nil=>cases h
 |cons a l ih=>
  simp only[zbh]
  rcases List.mem_cons.1 h with rfl|h
  ·omega
  ·have:=ih h;omega
theorem zaa(l:List Sr):l.length≤zbh l:=by
 induction l with
 |nil=>simp
 |cons a l ih=>
  simp only[zbh,List.length_cons]
  have:=a.size_pos;omega
abbrev cS(s:Sr):List AV:=[.lst 7 (zX s.idx) false,.int .i64 s.level,.bool s.dec,.int .i64 s.decT.kind,.int .i64 s.decT.num,.lst 3 (rsT s.decT.kids) false]
def zY:List Sr→List (List AV)
 |[]=>[]
 |a::l=>cS a::zY l
abbrev aS(c:Sr):AV:=.agg (cS c)
abbrev sS(l:List Sr):AV:=.lst 6 (zY l) false
theorem ziN(l:List Sr):zY l=l.map cS:=by
 induction l with
 |nil=>rfl
 |cons t l ih=>simp[zY,ih]
theorem zQ(l:List Sr):(zY l).length=l.length:=by rw[ziN,List.length_map]
theorem zaK{l:List Sr}{i:Nat}{t:Sr}(h:l[i]? =some t):(zY l)[i]? =some (cS t):=by rw[ziN,List.getElem?_map,h];rfl
structure Bl where
 sorts:List Sr
 cons:List Cn
 elim:Int
 deriving DecidableEq
def Bl.size(b:Bl):Nat:=zbh b.sorts+zbg b.cons
abbrev aB(b:Bl):AV:=.agg [.lst 6 (zY b.sorts) false,.lst 6 (rsC b.cons) false,.int .i64 b.elim]
theorem zW{P:Program}{w0:B0}{nt:Nat}{s:AS}{C:Exit→AS→Prop}{c:Code}(n:Nat)(I:Nat→Prop)(mk:Nat→AS)(h0:Less s (mk 0))(hI:I 0)
 (h: ∀ j,j≤n→I j→AC P w0 nt c (mk j) (sq (fun s'=>j <n∧I (j+1)∧Less s' (mk (j+1))) C)):AC P w0 nt (.loop c) s C:=by
 refine zqC mk (fun j=>j≤n∧I j) (fun j=>n-j) 0 h0 ⟨Nat.zero_le _,hI⟩ (fun j hj=>?_)
 intro β S a w Q hs hq
 refine h j hj.1 hj.2 β S a w Q hs (fun e β' S' a' w' s' hk hs'=>hq e β' S' a' w' s' ?_ hs')
 cases e with
 |normal=>exact⟨j+1,⟨hk.1,hk.2.1⟩,by have:=hk.1;show n-(j+1) <n-j;omega,hk.2.2⟩
 |_=>exact hk
theorem Tm.ext{a b:Tm}(h1:a.kind=b.kind)(h2:a.num=b.num)(h3:a.kids=b.kids):a=b:=by
 cases a;cases b
 simp only[Tm.kind,Tm.num,Tm.kids]at h1 h2 h3
 rw[h1,h2,h3]
def zhS(l:List Ar):Bool:=decide (20 <l.length)||l.any (fun a=>zbk [a.typ]||zbk a.dom||zbk a.idx)
def zhT(s:Sr):Bool:=zhS s.idx||zbk [s.decT]
def zh4(c:Cn):Bool:=zhS c.args||zbk c.idx||zbk [c.dec]
def zgw(b:Bl):Bool:=decide (10 <b.sorts.length)||decide (20 <b.cons.length)||b.sorts.any zhT||b.cons.any zh4
def zT:Tm:=.mk 0 0 []
def zuO(a:Ar):Cd:=if a.rc=true then⟨3,zT,a.dom,a.sort,a.idx,zT⟩else⟨2,a.typ,[],0,[],zT⟩
def zvw(c:Cn):List Cd:=c.args.map zuO++[⟨1,zT,[],0,c.idx,c.dec⟩]
def zt1(x:Cd):Bool:=
 if x.kind=2 then decide ((x.dom.length:Int)+x.idx.length=0)&&decide (x.sort=0)&&decide (x.dec=zT)
 else if x.kind=3 then decide (x.typ=zT)&&decide (x.dec=zT)
 else if x.kind=1 then decide (x.typ=zT)&&decide ((x.dom.length:Int)=0)&&decide (x.sort=0)
 else false
def zvs(x:Cd):Ar:=if x.kind=2 then⟨false,x.typ,[],0,[]⟩else⟨true,zT,x.dom,x.sort,x.idx⟩
def zvi(l:List Cd):Bool:=l.zipIdx.all fun p=>zt1 p.1&&(decide (p.1.kind=1)==decide (p.2+1=l.length))
def zC:Cn:=⟨0,[],[],zT⟩
def zvF(sort:Int)(l:List Cd):Cn×Int:=match zvi l,l.getLast? with
 |true,some x=>(⟨sort,l.dropLast.map zvs,x.idx,x.dec⟩,0)
 |_,_=>(zC,12)
theorem zaA{α:Type}{p:α→Bool}{l:List α}{j:Nat}{t:α}(h:l[j]? =some t):(l.take (j+1)).any p=((l.take j).any p||p t):=by
 rw[List.take_add_one,h,Option.toList_some,List.any_append];simp
theorem zbI{α:Type}{p:α→Bool}{l:List α}{j:Nat}{t:α}(h:l[j]? =some t)(hp:p t=true):l.any p=true:=
 List.any_eq_true.2 ⟨t,List.mem_of_getElem? h,hp⟩
theorem zy{n:Int}(h0: -9223372036854775808≤n)(h1:n≤9223372036854775807):IntKind.i64.wrap n=n:=by
 show(if(true&&decide (n%18446744073709551616≥9223372036854775808))=true then n%18446744073709551616-18446744073709551616 else n%18446744073709551616)=n
 rw[Bool.true_and]
 by_cases h:n%18446744073709551616≥9223372036854775808
 ·rw[if_pos (decide_eq_true h)];omega
 ·rw[if_neg (by simpa using h)];omega
theorem zA{α:Type}{l:List α}{j:Nat}(h:j <l.length): ∃ t,l[j]? =some t∧t∈l:=⟨l[j],List.getElem?_eq_getElem h,List.getElem_mem h⟩
theorem Wk.of_eq{x y:AV}(h:x=y):Wk x y:=h▸.refl x
theorem zO{blk:Bk}{ids:List Nat}{x y:AV}(h:x=y)(hk:keepV ids y=true):SeeV blk ids x y:=.inl ⟨.of_eq h,hk⟩
end Go.Aw
namespace Go.Aw
open Go.RowKit
theorem zhy{α:Type}{A:List α}{z r:α}{n j:Nat}(hA:A.length=j)(hj:j <n):(A++List.replicate (n-j) z).set j r=(A++[r])++List.replicate (n-(j+1)) z:=by
 obtain⟨m,hm⟩: ∃ m,n-j=m+1:=⟨n-j-1,by omega⟩
 have hm':n-(j+1)=m:=by omega
 rw[hm,hm',List.replicate_succ,List.set_append_right _ _ (by omega),show j-A.length=0 by omega,List.set_cons_zero]
 simp
theorem zhs{α:Type}{A:List α}{z:α}{n j:Nat}(hA:A.length=j)(hj:j <n):(A++List.replicate (n-j) z)[j]? =some z:=by
 rw[List.getElem?_append_right (by omega),show j-A.length=0 by omega,List.getElem?_replicate]
 simp;omega
section
variable {P:Program} {ty:Ty} {w0:B0} {nt:Nat} {s s':AS} {ops:Array Oper} {l:List Oper} {o:Oper} {K:AS→Prop} {C:Exit→AS→Prop} {d:Option Nat} {t:TypeId} {pos:String} {af:Array Edge} {g:Option (Nat×Bool)}
def zpK(ty:Ty)(u:Nat):Option (List AV):=match ty u with
 |some ui=>match ui.desc with
  | .slice e=>match ty e with
    |some ei=>some ei.zero
    |none=>none
  |_=>none
 |none=>none
theorem zl9(hty:TyOK P ty){u e es b:Nat}{x y:Operand}{k k':IntKind}{n:Nat}{zero:List AV}(id:Nat)(he:zl7 ty u=some (e,es,b))(hz:zpK ty u=some zero)(hid:s.blk id=none)(hx:evO s x=some (.int k (n:Int)))(hy:evO s y=some (.int k' (n:Int)))
 (hb:n*b≤140737488355328) (hb0:Nat.blt 0 b=true) (hd:zt nt d=true):
 OkOp P w0 nt ⟨d,.makeSlice u x y,t,pos,af,g⟩ s ((s.setB id (.arr e es (List.replicate n zero) true)).put d (.arr id)):=by
 intro β S a w next Q hs hn
 obtain⟨ui,ei,h1,h2,h3,rfl,rfl⟩:=zgR he
 obtain rfl:ei.zero=zero:=by simpa[zpK,h1,h2,h3]using hz
 obtain⟨_,_,_,hU⟩:=hty.get h1
 obtain⟨ci,_,z,hE⟩:=hty.get h3
 have hb0:=zfF hb0
 have hn1:n≤n*ei.bytes:=Nat.le_mul_of_pos_right n hb0
 have e1:=zah hs hx
 have e2:=zah hs hy
 generalize q1:a.eval x=vx at e1
 generalize q2:a.eval y=vy at e2
 cases e1
 cases e2
 have hbz:(ci.bytes:Int)*(n:Int)≤281474976710656:=by
  have:((ci.bytes*n:Nat):Int)≤281474976710656:=by rw[hE.bytes,Nat.mul_comm];omega
  rwa[Int.natCast_mul]at this
 have hr0:=run_make (P:=P) w u e ci z (hU.slice h2) hE.info hE.zero k k' n n (by omega) (Int.le_refl _) hbz (by omega)
 simp only[Int.toNat_natCast]at hr0
 have hr:(execOp a.eval ⟨d,.makeSlice u x y,t,pos,af,g⟩).run P w=.ok (.value (.slice (some ⟨w.heap.size,0,none⟩) n n)) (w.alloc (.cells (madeCells z.cells (n*ci.size)) e)):=by
  simp[execOp,q1,q2,hr0]
 unfold Oper.wp
 rw[hr]
 have hB:=zbM w (.cells (madeCells z.cells (n*ci.size)) e)
 have hzs:=zcU (β:=nb) (S:=S) (w:=w.alloc (.cells (madeCells z.cells (n*ci.size)) e)) hE.zs
 have hzl:ei.zero.length=ei.size:=by rw[←hzs.1,Array.length_toList,hE.zsize]
 refine hn _ _ _ _ (zh0 hs hB hid hd (bi:=⟨w.heap.size,n,n,ei.size⟩) (Nat.le_refl _) ⟨rfl,by simp,_,heap_alloc_new w _,Nat.le_refl _,by simp only[maxLen];omega,by rw[size_madeCells,hE.size],fun i hi=>?_,fun _ o q=>absurd (hs.hh.hlt _ _ q) (Nat.lt_irrefl _),(fun q=>by cases q),fun _ q=>by cases q⟩ (fun h=>.arr _ _ h))
 simp only[List.length_replicate]at hi
 have hg:(List.replicate n ei.zero).getD i []=ei.zero:=by simp[List.getD_eq_getElem?_getD,hi]
 rw[hg]
 refine⟨hzl,fun j hj=>?_⟩
 have hj':j <ei.size:=by omega
 have hlt:i*ei.size+j <n*ci.size:=by
  rw[hE.size]
  have:(i+1)*ei.size≤n*ei.size:=Nat.mul_le_mul_right _ (by omega)
  rw[Nat.add_mul]at this
  omega
 have hzc:z.cells.size=ei.size:=hE.zsize
 have hmod:(i*ei.size+j)%z.cells.size=j:=by rw[hzc,Nat.add_comm,Nat.add_mul_mod_self_right,Nat.mod_eq_of_lt hj']
 have e3:(madeCells z.cells (n*ci.size)).getD (i*ei.size+j) undef=z.cells.toList.getD j undef:=by
  have hjz:j <z.cells.size:=by omega
  simp[madeCells,Array.getD,hlt,hmod,List.getD_eq_getElem?_getD,hjz]
 rw[e3]
 exact hzs.2 j hj
theorem zee(hty:TyOK P ty){u e es b:Nat}{x y:Operand}{k k':IntKind}{n:Nat}{zero:List AV}(id:Nat)(he:zl7 ty u=some (e,es,b))(hz:zpK ty u=some zero)(hid:(s.blk id).isNone=true)(hx:evO s x=some (.int k (n:Int)))(hy:evO s y=some (.int k' (n:Int)))
 (hn:n≤4194304) (hb:Nat.ble b 65536=true) (hb0:Nat.blt 0 b=true) (hd:zt nt d=true):
 MStep P w0 nt ⟨d,.makeSlice u x y,t,pos,af,g⟩ s (.arr id) [(id,.arr e es (List.replicate n zero) true)]:=by
 intro t2 hle hfr
 exact zl9 hty id he hz (hfr (_,_) (List.mem_singleton.2 rfl) (Option.isNone_iff_eq_none.1 hid)) (zV hle hx) (zV hle hy) (zfU hn hb) hb0 hd
theorem zrL(hty:TyOK P ty){pin:Option BI}{u:Nat}{ui:TI}{x y:Operand}{id i off e es:Nat}{v:AV}{rows:List (List AV)}{row vs row':List AV}(hi:ty u=some ui)(hx:evO s x=some (.aptr id i off))(hy:evO s y=some v)
 (hb:s.blk id=some (.ar pin e es rows true)) (hrow:rows[i]? =some row) (hv:zds v=some vs) (hl:Nat.beq vs.length ui.size=true) (ho:Nat.ble (off+vs.length) es=true) (hcl:vs.all zaj=true) (hc:setAt row off vs=row'):
 OkOp P w0 nt ⟨none,.store u x y,t,pos,af,g⟩ s (s.setB id (.ar pin e es (rows.set i row') true)):=by
 intro β S a w next Q hs hn
 have hl:=Nat.eq_of_beq_eq_true hl
 have ho:off+vs.length≤es:=Nat.le_of_ble_eq_true ho
 subst hc
 obtain⟨ci,_,_,hI⟩:=hty.get hi
 have h1:=zah hs hx
 have h2:=zah hs hy
 generalize e1:a.eval x=ax at h1
 cases h1
 rename_i bi hbi
 obtain⟨bi2,e2,h3,h4⟩:=hs.hh.hblk id _ hb
 rw[hbi]at e2
 obtain rfl:=Option.some.inj e2
 obtain⟨b1,b2,cs,b3,b4,b5,b6,b7,b8,b9⟩:=h3
 have h8:=b8 rfl
 obtain⟨h9,h10⟩:=zeA h2 hv
 have hilt:i <rows.length:=(List.getElem?_eq_some_iff.1 hrow).1
 have hrd:rows.getD i []=row:=by rw[List.getD_eq_getElem?_getD,hrow];rfl
 have hrl:row.length=es:=by have:=(b7 i hilt).1;rwa[hrd]at this
 have e1:a.eval x=.pointer (some ⟨bi.b,i*es+off,none⟩):=by rw[e1,b1]
 have hmul:(i+1)*es≤bi.c*es:=Nat.mul_le_mul_right _ (by omega)
 rw[Nat.add_mul]at hmul
 have h9':(a.eval y).cells.toList.length=vs.length:=by simpa using h9
 have hst:=run_storeCells_at P bi.b (i*es+off) e (a.eval y).cells.toList 0 cs w b3 (by rw[h9',b6];omega) (by
  intro q hq
  obtain⟨j,hj,rfl⟩:=List.mem_iff_getElem.1 hq
  have:=(h10 j (by rw[←h9];simpa using hj)).2
  rw[Nat.zero_add]at this
  have e:(a.eval y).cells.getD j undef=(a.eval y).cells.toList[j]:=by
   simp at hj
   simp[Array.getD,hj]
  rwa[e]at this)
 have hcl':cs.toList.length=bi.c*es:=by rw[Array.length_toList,b6]
 have ho':i*es+off+(a.eval y).cells.toList.length≤cs.toList.length:=by omega
 simp only[Nat.add_zero]at hst
 obtain⟨rw',hrow0⟩: ∃ rw':Array Value,rw'=(cs.toList.take (i*es+off)++(a.eval y).cells.toList++cs.toList.drop (i*es+off+(a.eval y).cells.toList.length)).toArray:=⟨_,rfl⟩
 rw[←hrow0]at hst
 have hrow':rw'=(setAt cs.toList (i*es+off) (a.eval y).cells.toList).toArray:=hrow0
 have hrs:rw'.size=cs.size:=by rw[hrow',List.size_toArray,zbL _ _ _ ho'];simp
 have hrdj: ∀ j,rw'.getD j undef=if i*es+off≤j∧j <i*es+off+vs.length then(a.eval y).cells.getD (j-(i*es+off)) undef else cs.getD j undef:=by
  intro j
  rw[←zag,hrow',List.toList_toArray,zdW _ _ _ _ ho',h9']
  split <;>rw[zag]
 have hr:(execOp a.eval ⟨none,.store u x y,t,pos,af,g⟩).run P w=.ok .skip (w.setRow bi.b rw'):=by
  have:(a.eval y).cells.size=ci.size:=by rw[h9,hl,hI.size]
  simp[execOp,e1,Instr.storeAt,Instr.sureAddr,storeVar,sizeOf,typeInfo,hI.info,this]at hst⊢
  rw[hst]
  rfl
 unfold Oper.wp
 rw[hr]
 have hw:=hs.hh.write (k':=.ar pin e es (rows.set i (setAt row off vs)) true) hb rfl hbi h8 (w':=w.setRow bi.b rw')
  (by simp) (fun b hb=>setRow_other w _ _ _ hb) rfl rfl rfl (fun hm=>⟨b1,by rw[List.length_set];exact b2,rw',setRow_heap w _ cs _ e _ b3,b4,b5,by rw[hrs];exact b6,fun i' hi'=>?_,fun _=>h8,(fun q=>by cases q),b9.2⟩)
 ·exact hn _ _ _ _ ⟨hw.1,fun u x q=>hw.2 (hs.henv u x q),hs.hsize,hs.hdefers⟩
 ·rw[List.length_set]at hi'
  have hmn: ∀ {v x},VR nb S w v x→VR nb S (w.setRow bi.b rw') v x:=fun q=>q.mono (fun _ _ q=>q) (fun b o q=>⟨q,World.cell?_of_block (a:=⟨b,o,none⟩) (setRow_other w _ _ _ (fun e:b=bi.b=>h8 o (e▸q)))⟩)
  by_cases hii:i'=i
  ·subst hii
   have hg:(rows.set i' (setAt row off vs)).getD i' []=setAt row off vs:=by simp[List.getD_eq_getElem?_getD,hi']
   rw[hg]
   have hsl:(setAt row off vs).length=es:=by rw[zbL _ _ _ (by omega)];exact hrl
   refine⟨hsl,fun j hj=>?_⟩
   rw[zdW _ _ _ _ (by omega),hrdj]
   by_cases hin:off≤j∧j <off+vs.length
   ·rw[if_pos hin,if_pos (by omega),show i'*es+j-(i'*es+off)=j-off by omega]
    have:=h10 (j-off) (by omega)
    rw[Nat.zero_add]at this
    exact⟨hmn (zc3 (za7 hcl (by omega)) this.1),this.2⟩
   ·rw[if_neg hin,if_neg (by omega)]
    have:=(b7 i' hi').2 j (by rw[hrd];omega)
    rw[hrd]at this
    exact⟨hmn this.1,this.2⟩
  ·have hg:(rows.set i (setAt row off vs)).getD i' []=rows.getD i' []:=by simp[List.getD_eq_getElem?_getD,Ne.symm hii]
   rw[hg]
   refine⟨(b7 i' hi').1,fun j hj=>?_⟩
   have hje:j <es:=by rw[←(b7 i' hi').1];exact hj
   rw[hrdj,if_neg]
   ·have:=(b7 i' hi').2 j hj
    exact⟨hmn this.1,this.2⟩
   ·intro hc
    rcases Nat.lt_or_ge i' i with q|q
    ·have:(i'+1)*es≤i*es:=Nat.mul_le_mul_right _ (by omega)
     rw[Nat.add_mul]at this
     omega
    ·have:(i+1)*es≤i'*es:=Nat.mul_le_mul_right _ (by omega)
     rw[Nat.add_mul]at this
     omega
theorem zdK(hty:TyOK P ty){pin:Option BI}{u:Nat}{ui:TI}{x y:Operand}{id i off e es:Nat}{v:AV}{rows:List (List AV)}{row vs row':List AV}(hi:ty u=some ui)(hx:evO s x=some (.aptr id i off))(hy:evO s y=some v)
 (hb:s.blk id=some (.ar pin e es rows true)) (hrow:rows[i]? =some row) (hv:zds v=some vs) (hl:Nat.beq vs.length ui.size=true) (ho:Nat.ble (off+vs.length) es=true) (hcl:vs.all zaj=true) (hc:setAt row off vs=row'):
 MStep P w0 nt ⟨none,.store u x y,t,pos,af,g⟩ s .any [(id,.ar pin e es (rows.set i row') true)]:=
 fun _ hle _=>zrL hty hi (zV hle hx) (zV hle hy) (hle.2 _ _ hb) hrow hv hl ho hcl hc
end
end Go.Aw
namespace Go.Aw
open Go.RowKit
def rn(ρ:List (Nat×Nat))(i:Nat):Nat:=match ρ with
 |[]=>i
 |(a,b)::l=>match Nat.beq i a with
  |true=>b
  |false=>rn l i
def rn0(ρ:List (Nat×Nat)):AV→AV
 | .ptr id o=>.ptr (rn ρ id) o
 |x=>x
def rnS(ρ:List (Nat×Nat)):AV→AV
 | .ptr id o=>.ptr (rn ρ id) o
 | .arr id=>.arr (rn ρ id)
 | .aptr id i o=>.aptr (rn ρ id) i o
 | .mp id=>.mp (rn ρ id)
 | .fn f a b=>.fn f (a.map (rn0 ρ)) (b.map (rn0 ρ))
 |x=>x
def rnV(ρ:List (Nat×Nat)):AV→AV
 | .agg cs=>.agg (cs.map (rnS ρ))
 |x=>rnS ρ x
def rnB(ρ:List (Nat×Nat)):AB→AB
 | .bx p cs=>.bx p (cs.map (rnS ρ))
 |k=>k
def zhG(ρ:List (Nat×Nat))(β:Bt)(ids:List Nat):Bt:=fun i=>match ids.any (Nat.beq i)with
 |true=>β (rn ρ i)
 |false=>none
theorem zjA{ρ:List (Nat×Nat)}{x:AV}(h:zai x=true):rn0 ρ x=x:=by cases x <;>first|rfl|simp[zai]at h
theorem zqA{ρ:List (Nat×Nat)}{l:List AV}(h:l.all zai=true):l.map (rn0 ρ)=l:=by
 have:l.map (rn0 ρ)=l.map id:=List.map_congr_left fun x hx=>zjA (List.all_eq_true.1 h x hx)
 rw[this,List.map_id]
theorem zpd{ρ:List (Nat×Nat)}{x:AV}(h:zaj x=true):rnS ρ x=x:=by
 cases x <;>first
  |rfl
  |(simp[zaj,zai]at h;done)
  |skip
 simp only[zaj,Bool.and_eq_true]at h
 rw[rnS,zqA h.1,zqA h.2]
theorem zsB{ρ:List (Nat×Nat)}{β:Bt}{S:St}{w:World}{ids:List Nat}{v:Value}{x:AV}(hk:znn ids x=true)(h:VR β S w v (rn0 ρ x)):VR (zhG ρ β ids) S w v x:=by
 by_cases hc:zai x=true
 ·rw[zjA hc]at h
  exact VR.up (zbp hc h)
 ·cases x <;>first
   |exact absurd hk hc
   |skip
  rename_i id off
  cases h with
  |ptr _ _ bi hb=>exact .ptr id off bi (by simp only[zhG];rw[show ids.any (Nat.beq id)=true from hk];exact hb)
theorem znC{f:AV→AV}{l:List AV}{j:Nat}(hj:j <l.length):(l.map f).getD j .any=f (l.getD j .any):=by simp[List.getD_eq_getElem?_getD,hj]
theorem zpB{ρ:List (Nat×Nat)}{β:Bt}{S:St}{w:World}{ids:List Nat}{v:Value}{x:AV}(hk:zfb ids x=true)(h:VR β S w v (rnS ρ x)):VR (zhG ρ β ids) S w v x:=by
 by_cases hc:zaj x=true
 ·rw[zpd hc]at h
  exact VR.up (zc3 hc h)
 ·cases x with
  |ptr id off=>
   cases h with
   |ptr _ _ bi hb=>exact .ptr id off bi (by simp only[zhG];rw[show ids.any (Nat.beq id)=true from hk];exact hb)
  |arr id=>
   cases h with
   |arr _ bi hb=>exact .arr id bi (by simp only[zhG];rw[show ids.any (Nat.beq id)=true from hk];exact hb)
  |aptr id i off=>
   cases h with
   |aptr _ _ _ bi hb=>exact .aptr id i off bi (by simp only[zhG];rw[show ids.any (Nat.beq id)=true from hk];exact hb)
  |fn f a b=>
   simp only[zfb,Bool.and_eq_true]at hk
   cases h with
   |fn _ fi ca _ _ h1 h2 h3 h4=>
    simp only[List.length_map]at h1 h2 h3 h4
    exact .fn f fi ca a b h1 h2 (fun j hj=>zsB (za7 hk.1 hj) (by have:=h3 j hj;rwa[znC hj]at this)) (fun j hj=>zsB (za7 hk.2 hj) (by have:=h4 j hj;rwa[znC hj]at this))
  |mp id=>
   cases h with
   |mp _ bi hb=>exact .mp id bi (by simp only[zhG];rw[show ids.any (Nat.beq id)=true from hk];exact hb)
  |_=>exact absurd hk hc
theorem zuU{ρ:List (Nat×Nat)}{β:Bt}{S:St}{w:World}{ids:List Nat}{v:Value}{x:AV}(hk:keepV ids x=true)(h:VR β S w v (rnV ρ x)):VR (zhG ρ β ids) S w v x:=by
 by_cases e: ∃ cs,x=.agg cs
 ·obtain⟨cs,rfl⟩:=e
  cases h with
  |agg c _ h1 h3 h4=>
   simp only[List.length_map]at h1 h3 h4
   refine .agg c cs h1 (fun j hj=>zpB (ρ:=ρ) (za7 hk hj) ?_) h4
   have:=h3 j hj
   have e2:(cs.map (rnS ρ)).getD j .any=rnS ρ (cs.getD j .any):=by simp[List.getD_eq_getElem?_getD,hj]
   rwa[e2]at this
 ·by_cases e2: ∃ vs,x=.tup vs
  ·obtain⟨vs,rfl⟩:=e2
   exact VR.up (zjK hk h)
  ·have e3:rnV ρ x=rnS ρ x:=by cases x <;>first|rfl|exact absurd ⟨_,rfl⟩ e
   rw[e3]at h
   exact zpB (by cases x <;>first|exact hk|exact absurd ⟨_,rfl⟩ e|exact absurd ⟨_,rfl⟩ e2) h
theorem zuN{ρ:List (Nat×Nat)}{β:Bt}{S:St}{w:World}{ids:List Nat}{bi:BI}{k:AB}(hk:keepB ids k=true)(h:BR β S w bi (rnB ρ k)):BR (zhG ρ β ids) S w bi k:=by
 cases k with
 |bx p cells=>
  obtain⟨cs,t,h1,h2,h3,h4⟩:=h
  simp only[List.length_map]at h2
  refine⟨cs,t,h1,h2,fun j hj=>?_,h4⟩
  have:=h3 j (by simpa using hj)
  have e2:(cells.map (rnS ρ)).getD j .any=rnS ρ (cells.getD j .any):=by simp[List.getD_eq_getElem?_getD,hj]
  rw[e2]at this
  exact⟨zpB (za7 hk hj) this.1,this.2⟩
 |ar=>exact h
 |ro=>exact h
 |gone=>exact h
 |rob=>exact h
 |mp=>exact h
def subVr(ρ:List (Nat×Nat))(s:AS)(ids:List Nat):List (Nat×AV)→Prop
 |[]=>True
 |(t,v)::l=>(∃ x,s.env t=some x∧((Wk x (rnV ρ v)∧keepV ids v=true)∨ ∃ y,argV s.blk x=some y∧Wk y v))∧subVr ρ s ids l
def subBr(ρ:List (Nat×Nat))(s:AS)(ids:List Nat):List (Nat×AB)→Prop
 |[]=>True
 |(t,v)::l=>((∃ k,s.blk (rn ρ t)=some k∧WkB k (rnB ρ v))∧keepB ids v=true)∧subBr ρ s ids l
section
variable {s:AS} {ρ:List (Nat×Nat)} {ids:List Nat}
theorem zmW: ∀ {l:List (Nat×AV)},subVr ρ s ids l→ ∀ t v,envOf l t=some v→ ∃ x,s.env t=some x∧((Wk x (rnV ρ v)∧keepV ids v=true)∨ ∃ y,argV s.blk x=some y∧Wk y v)
 |[],_,t,v,h=>by cases h
 |(u,y)::l,hl,t,v,h=>by
  unfold envOf at h
  split at h
  ·rename_i e
   obtain rfl:=Option.some.inj h
   rw[Nat.eq_of_beq_eq_true e];exact hl.1
  ·exact zmW hl.2 t v h
theorem zgY: ∀ {l:List (Nat×AB)},subBr ρ s ids l→ ∀ t v,bkOf l t=some v→(∃ k,s.blk (rn ρ t)=some k∧WkB k (rnB ρ v))∧keepB ids v=true
 |[],_,t,v,h=>by cases h
 |(u,y)::l,hl,t,v,h=>by
  unfold bkOf at h
  split at h
  ·rename_i e
   obtain rfl:=Option.some.inj h
   rw[Nat.eq_of_beq_eq_true e];exact hl.1
  ·exact zgY hl.2 t v h
def zvB(ρ:List (Nat×Nat))(ids:List Nat):Bool:=ids.all fun i=>ids.all fun j=>Nat.beq i j|| !(Nat.beq (rn ρ i) (rn ρ j))
theorem zi4(k:AB):(rnB ρ k).live=k.live:=by cases k <;>rfl
theorem zbf(ρ:List (Nat×Nat)){l:List (Nat×AV)}{bl:List (Nat×AB)}(hi:zvB ρ (bl.map (·.1))=true)(h:subVr ρ s (bl.map (·.1)) l)(hb:subBr ρ s (bl.map (·.1)) bl):Less s ⟨envOf l,bkOf bl⟩:=by
 intro w0 nt β S a w hs
 have hdm: ∀ {i bi},zhG ρ β (bl.map (·.1)) i=some bi→(bl.map (·.1)).any (Nat.beq i)=true∧β (rn ρ i)=some bi:=by
  intro i bi q
  simp only[zhG]at q
  split at q
  ·exact⟨by assumption,q⟩
  ·cases q
 have hmem: ∀ {i:Nat},(bl.map (·.1)).any (Nat.beq i)=true→i∈bl.map (·.1):=by
  intro i q
  obtain⟨x,hx,he⟩:=List.any_eq_true.1 q
  rw[Nat.eq_of_beq_eq_true he];exact hx
 refine⟨zhG ρ β (bl.map (·.1)),S,⟨?_,?_,?_,hs.hh.hold,hs.hh.hnew,hs.hh.hlt,hs.hh.hbelow⟩,fun t x hx=>?_,hs.hsize,hs.hdefers⟩
 ·intro id k hk
  obtain⟨⟨k0,h1,h0⟩,h2⟩:=zgY hb id k hk
  obtain⟨bi,h3,h4,h5⟩:=hs.hh.hblk _ k0 h1
  exact⟨bi,by simp only[zhG];rw[zhO hk];exact h3,zuN h2 (h0.ok h4),fun q=>h5 (by rw[←h0.live,zi4];exact q)⟩
 ·intro id bi hbi
  exact zka (hdm hbi).1
 ·intro i j bi bj ki kj hne q1 l1 q2 l2 p1 p2
  obtain⟨m1,e1⟩:=hdm p1
  obtain⟨m2,e2⟩:=hdm p2
  obtain⟨⟨k1,g1,g2⟩,_⟩:=zgY hb i ki q1
  obtain⟨⟨k2,g3,g4⟩,_⟩:=zgY hb j kj q2
  have hne':rn ρ i≠rn ρ j:=by
   have:=List.all_eq_true.1 (List.all_eq_true.1 hi i (hmem m1)) j (hmem m2)
   simp only[Bool.or_eq_true,Bool.not_eq_true']at this
   intro e
   rcases this with q|q
   ·exact hne (Nat.eq_of_beq_eq_true q)
   ·rw[e,Nat.beq_refl]at q;cases q
  exact hs.hh.hinj _ _ bi bj k1 k2 hne' g1 (by rw[←g2.live,zi4];exact l1) g3 (by rw[←g4.live,zi4];exact l2) e1 e2
 ·obtain⟨y,h1,h2⟩:=zmW h t x hx
  rcases h2 with⟨h2,h3⟩|⟨z,h2,h3⟩
  ·exact zuU h3 (h2.ok (hs.henv t y h1))
  ·exact h3.ok (VR.up (zcb hs.hh (hs.henv t y h1) h2))
end
end Go.Aw
namespace Go.Aw
open Go.RowKit
inductive CV (S:St) (w:World):List Value→List AV→Prop
 |nil:CV S w [] []
 |cons {c:Value} {x:AV} {cs:List Value} {xs:List AV} (h:VR nb S w c x) (h1:c.oneCell'=true) (ht:CV S w cs xs):CV S w (c::cs) (x::xs)
theorem CV.append{S:St}{w:World}{a b:List Value}{x y:List AV}(h:CV S w a x)(hb:CV S w b y):CV S w (a++b) (x++y):=by
 induction h with
 |nil=>exact hb
 |cons h h1 _ ih=>exact .cons h h1 ih
theorem CV.len{S:St}{w:World}{a:List Value}{x:List AV}(h:CV S w a x):a.length=x.length:=by
 induction h with
 |nil=>rfl
 |cons h h1 _ ih=>simp[ih]
theorem CV.get{S:St}{w:World}{a:List Value}{x:List AV}(h:CV S w a x): ∀ j,j <x.length→VR nb S w (a.getD j undef) (x.getD j .any)∧(a.getD j undef).oneCell'=true:=by
 induction h with
 |nil=>intro j hj;simp at hj
 |cons h h1 _ ih=>
  intro j hj
  cases j with
  |zero=>exact⟨h,h1⟩
  |succ j=>exact ih j (by simpa using hj)
theorem CV.agg{S:St}{w:World}{a:List Value}{x:List AV}(h:CV S w a x):VR nb S w (.agg a.toArray) (.agg x):=by
 refine .agg _ _ (by simpa using h.len) (fun j hj=>?_) (fun j hj=>?_)
 ·have:=(h.get j hj).1
  simpa[Array.getD_eq_getD_getElem?,List.getD_eq_getElem?_getD]using this
 ·have:=(h.get j hj).2
  simpa[Array.getD_eq_getD_getElem?,List.getD_eq_getElem?_getD]using this
theorem zlM{w:World}{b o:Nat}{v:Value}(h:w.cell? ⟨b,o,none⟩=some v):b <w.heap.size:=by
 by_cases e:b <w.heap.size
 ·exact e
 ·have:w.heap[b]? =none:=Array.getElem?_eq_none (by omega)
  simp[World.cell?,this]at h
def zdR(w:World):St:=fun b _=>b <w.heap.size
section
variable {H:Type} {enc:TypeId×Value→H} {P:Program} {w:World} {fuel:Nat} {t:TypeId} {cs:List Value} {d:DataW H} {ps:List MemPlace}
theorem zcr{k:IntKind}(hu:P.underlying t=some (.int k))(h:DataW.trod enc P w 0 (fun _=>true) true fuel t cs=some (d,ps)): ∃ n,cs=[.int k n]∧CV (zdR w) w cs [.int k n]∧k.has n:=by
 cases fuel with
 |zero=>simp[DataW.trod]at h
 |succ m=>
  unfold DataW.trod at h
  rw[hu]at h
  split at h <;>simp_all
  refine⟨.cons (.int _ _) rfl .nil,?_⟩
  have:=h.1.2
  simp only[Lit.wf,Bool.and_eq_true,decide_eq_true_eq]at this
  exact this
theorem zlp(hu:P.underlying t=some .bool)(h:DataW.trod enc P w 0 (fun _=>true) true fuel t cs=some (d,ps)): ∃ n,cs=[.bool n]∧CV (zdR w) w cs [.bool n]:=by
 cases fuel with
 |zero=>simp[DataW.trod]at h
 |succ m=>
  unfold DataW.trod at h
  rw[hu]at h
  split at h <;>simp_all
  exact .cons (.bool _) rfl .nil
theorem ziW{w:World}{a:Addr}{n:Nat}{l:List Value}(h:w.cells? 0 a n=some l):l.length=n∧ ∀ j,j <n→w.cell? (a.add j)=some (l.getD j undef):=by
 unfold World.cells? at h
 rw[if_pos (Nat.zero_le _)]at h
 have hl:=mapM_some_length h
 refine⟨by simpa using hl,fun j hj=>?_⟩
 have:=mapM_some_get h j j (by simp[hj])
 rw[this,List.getD_eq_getElem?_getD,List.getElem?_eq_getElem (by simp at hl;omega)]
 rfl
theorem zrB{α:Type}(n:Nat)(p:Nat→α→Prop)(h: ∀ i,i <n→ ∃ x,p i x): ∃ l:List α,l.length=n∧ ∀ i x,l[i]? =some x→p i x:=by
 induction n with
 |zero=>exact⟨[],rfl,fun i x q=>by simp at q⟩
 |succ n ih=>
  obtain⟨l,hl,hp⟩:=ih (fun i hi=>h i (by omega))
  obtain⟨y,hy⟩:=h n (by omega)
  refine⟨l++[y],by simp[hl],fun i x q=>?_⟩
  by_cases e:i <n
  ·rw[List.getElem?_append_left (by omega)]at q;exact hp i x q
  ·rw[List.getElem?_append_right (by omega)]at q
   have:i=n:=by
    have:=(List.getElem?_eq_some_iff.1 q).1
    simp at this;omega
   subst this
   simp[hl]at q;subst q;exact hy
theorem zss{α β:Type}(f:α→Nat)(g:β→Nat): ∀ (l:List α) (r:List β),l.length=r.length→(∀ (i:Nat) (a:α) (b:β),l[i]? =some a→r[i]? =some b→f a≤g b)→(l.map f).sum≤(r.map g).sum
 |[],[],_,_=>by simp
 |a::l,b::r,hl,h=>by
  have h0:=h 0 a b rfl rfl
  have:=zss f g l r (by simpa using hl) (fun i x y q1 q2=>h (i+1) x y (by simpa using q1) (by simpa using q2))
  simp only[List.map_cons,List.sum_cons];omega
 |[],b::r,hl,_=>by simp at hl
 |a::l,[],hl,_=>by simp at hl
theorem zcw{α:Type}{e:TypeId}{es:Nat}(hu:P.underlying t=some (.slice e))(hc:P.cellsOf e=es)(hpos:0 <es)(sz:α→Nat)(row:α→List AV)(bulk:DataW H→Nat)
 (hb: ∀ l r,(l.map bulk).sum≤bulk (.slice l r))
 (ih: ∀ (m:Nat) cs d ps,m <fuel→DataW.trod enc P w 0 (fun _=>true) true m e cs=some (d,ps)→ ∃ x,CV (zdR w) w cs (row x)∧sz x≤bulk d)
 (h:DataW.trod enc P w 0 (fun _=>true) true fuel t cs=some (d,ps)):
 ∃ l:List α,CV (zdR w) w cs [.lst es (l.map row) false]∧(l.map sz).sum≤bulk d:=by
 rcases DataW.trod_slice hu h with⟨rfl,e1⟩|⟨a,len,cap,elems,rest,n,rfl,rfl,e1,_,hle,_,hlen,hel,hre,_⟩
 ·exact⟨[],.cons (.lst0 _ _) rfl .nil,Nat.zero_le _⟩
 ·obtain⟨rfl,rfl⟩:=Prod.mk.inj e1
  subst hc
  obtain⟨hrl,hre⟩:=hre rfl
  by_cases hcap:cap=0
  ·obtain rfl:len=0:=by omega
   subst hcap
   exact⟨[],.cons (.lstZ _ _ _) rfl .nil,Nat.zero_le _⟩
  ·have hspot:a.spot=none:=by
    have: ∃ l,w.cells? 0 a (P.cellsOf e)=some l:=by
     by_cases hl0:len=0
     ·have:=hre 0 (by omega)
      rw[List.getElem?_eq_getElem (by omega)]at this
      obtain⟨l,h1,_⟩:=Option.bind_eq_some_iff.1 this
      subst hl0
      exact⟨l,by simpa[Addr.add]using h1⟩
     ·have:=hel 0 (by omega)
      rw[List.getElem?_eq_getElem (by omega)]at this
      obtain⟨l,h1,_⟩:=Option.bind_eq_some_iff.1 this
      exact⟨l,by simpa[Addr.add]using h1⟩
    obtain⟨l,hk⟩:=this
    have:=(ziW hk).2 0 hpos
    simpa[Addr.add]using World.cell?_spot this
   obtain⟨b,o,sp⟩:=a
   obtain rfl:sp=none:=hspot
   have hx: ∀ i,i <len→ ∃ p:α×List Value,CV (zdR w) w p.2 (row p.1)∧p.2.length=P.cellsOf e∧(∀ j,j <P.cellsOf e→w.cell? ⟨b,o+i*P.cellsOf e+j,none⟩=some (p.2.getD j undef))∧ ∀ y,elems[i]? =some y→sz p.1≤bulk y.1:=by
    intro i hi
    have:=hel i hi
    rw[List.getElem?_eq_getElem (by omega)]at this
    obtain⟨l,h1,h2⟩:=Option.bind_eq_some_iff.1 this
    obtain⟨hl1,hl2⟩:=ziW h1
    obtain⟨x,hx1,hx2⟩:=ih n l elems[i].1 elems[i].2 (by omega) h2
    refine⟨(x,l),hx1,hl1,fun j hj=>?_,fun y hy=>?_⟩
    ·have:=hl2 j hj
     rwa[Go.WideShapes.add_plain,Go.WideShapes.add_plain]at this
    ·rw[List.getElem?_eq_getElem (by omega)]at hy
     obtain rfl:=Option.some.inj hy
     exact hx2
   obtain⟨l,hll,hlp⟩:=zrB len _ hx
   have hgi: ∀ i,i <len→ ∃ p,l[i]? =some p:=fun i hi=>⟨l[i]'(by omega),List.getElem?_eq_getElem (by omega)⟩
   refine⟨l.map (·.1),.cons ?_ rfl .nil,?_⟩
   ·refine .lst b o len cap (P.cellsOf e) _ false (fun i j=>((l[i]?.map (·.2)).getD []).getD j undef) (by simp[hll]) hle (fun q=>by cases q) (fun i hi=>?_) (fun i j hi hj=>?_) (fun i j hi hj=>?_)
    ·obtain⟨p,hp⟩:=hgi i hi
     obtain⟨q1,q2,_,_⟩:=hlp i p hp
     simp only[List.map_map,List.getD_eq_getElem?_getD,List.getElem?_map,hp,Option.map_some,Function.comp,Option.getD_some]
     rw[←q1.len];exact q2
    ·obtain⟨p,hp⟩:=hgi i hi
     obtain⟨q1,q2,q3,_⟩:=hlp i p hp
     have hc:=q3 j hj
     simp only[hp,Option.map_some,Option.getD_some]
     exact⟨zlM hc,hc,(q1.get j (by rw[←q1.len];omega)).2⟩
    ·obtain⟨p,hp⟩:=hgi i hi
     obtain⟨q1,q2,q3,_⟩:=hlp i p hp
     simp only[List.map_map,List.getD_eq_getElem?_getD,List.getElem?_map,hp,Option.map_some,Function.comp,Option.getD_some]
     have:=(q1.get j (by rw[←q1.len];omega)).1
     simpa only[List.getD_eq_getElem?_getD]using this
   ·refine Nat.le_trans ?_ (hb _ _)
    rw[List.map_map]
    have:=zss (fun p:α×List Value=>sz p.1) (fun y:DataW H×List MemPlace=>bulk y.1) l elems (by omega) (fun i p y hp hy=>(hlp i p hp).2.2.2 y hy)
    rw[List.map_map];exact this
end
end Go.Aw
namespace Go.Aw
open Go.RowKit Go.ChangeShapes Go.WideShapes
section
variable {H:Type} {enc:TypeId×Value→H} {P:Program} {W W':World}
theorem zrZ{t:TypeId}{v:Value}{d:DataW H}{ps:List MemPlace}{spare:Nat→Bool}{held:Bool}(h:DataW.Trod enc P W 0 spare held t v d ps)(hp: ∀ p∈ps,p.block <W.heap.size)(hB:Below W.heap.size W W'):
 DataW.Trod enc P W' 0 spare held t v d ps:=by
 obtain⟨n,hn⟩:=h
 refine⟨n,DataW.trod_carry n _ _ _ hn fun p hpm=>?_⟩
 have:=hp p hpm
 cases p with
 |cell b o=>exact zch hB this
 |map b=>exact hB.block _ this
theorem zgW{spare:Nat→Bool}{held:Bool}(hB:Below W.heap.size W W'): ∀ {ts:List TypeId} {vs:List Value} {ds:List (DataW H)} {ps:List MemPlace},DataW.TrodAll enc P W 0 spare held ts vs ds ps→(∀ p∈ps,p.block <W.heap.size)→
 DataW.TrodAll enc P W' 0 spare held ts vs ds ps
 |[],[],[],_,h,_=>h
 |_::_,_::_,_::_,_,⟨p,q,h1,h2,e⟩,hs=>
  ⟨p,q,zrZ h1 (fun x hx=>hs x (by rw[e];exact List.mem_append_left _ hx)) hB,zgW hB h2 (fun x hx=>hs x (by rw[e];exact List.mem_append_right _ hx)),e⟩
structure Laid (P:Program):Prop where
 laid:laidOutB P=true
 maps:mapsRowed P=true
 full:((List.range P.types.size).all fun t=>match P.underlying t with|some (.slice e)=>decide (0 <P.cellsOf e)|_=>true)=true
theorem zrn(hP:Laid P){ts:List TypeId}{vs:List Value}{ds:List (DataW H)}{ps:List MemPlace}(hts: ∀ t∈ts,t <P.types.size)(h:DataW.TrodAll enc P W 0 (fun _=>true) true ts vs ds ps)(hB:Below W.heap.size W W'):
 DataW.TrodAll enc P W' 0 (fun b=>decide (b <W.heap.size)) true ts vs ds ps:=
 zgW hB (DataW.TrodAll.respare (kids_rows hP.laid hP.maps) (slices_full_of P hP.full) hts h (fun p hp=>decide_eq_true (h.lt p hp))) (fun p hp=>h.lt p hp)
theorem zrc(hP:Laid P){f:Nat}{fn:Func}{s:ChangeSpec}{args:Array Value}{ds gs:List (DataW H)}{before:List MemPlace}{avs:List AV}{tb:TypeId}(hPC:PC P f avs (.bool true))
 (hW:DataW.Whole enc P fn.params.toList s.vars false W args.toList ds gs before) (hsz:args.size=avs.length) (hvr: ∀ j,j <avs.length→VR nb (zdR W) W (args.getD j undef) (avs.getD j .any))
 (hvars:s.vars=[]) (hts: ∀ t∈fn.params.toList,t <P.types.size) (hr:(s.fn H ds).results=[.lit (.bool true)]) (ha:(s.fn H ds).args=ds) (hv:(s.fn H ds).vars=[])
 (hres:fn.resultTypes= #[tb]) (htb:P.underlying tb=some .bool):
 Calls P f args W fun e W'=> ∃ v,e=.returned v∧s.post enc P fn false true false false W args v W':=by
 have hW':=hW
 obtain⟨p,q,hA,hV,rfl,_,_⟩:=hW
 rw[hvars]at hV
 obtain⟨rfl,rfl⟩:=trodVars_none hV
 refine(hPC W (zdR W) args (fun b o h=>h) hsz hvr).mono fun e W' ⟨v,S',he,hB,_,_,_,hRV⟩=>?_
 obtain⟨b,hRV⟩:=hRV
 have hRV:VR nb S' W' v (.bool true):=hRV
 cases hRV
 refine⟨_,he,?_⟩
 refine⟨ds,[],_,[],p,[],hW',?_,?_,?_,hB.frame _,fun h=>by cases h⟩
 ·rw[List.append_nil,hr,hres]
  exact trodAll_mk1 (shut_bool htb _)
 ·rw[List.append_nil,ha]
  exact zrn hP hts hA hB
 ·rw[List.append_nil,hv,hvars]
  rfl
theorem zqa{t:TypeId}{fs:Array Field}{v:Value}{base:Nat}(ht:P.underlying t=some (.struct fs))(h:Value.okWide P W .any base t v): ∃ cs,v=.agg cs:=by
 simp only[Value.okWide,ht]at h
 exact⟨_,h.choose_spec.1⟩
theorem ztR{cs:Array Value}{xs:List AV}(h:CV (zdR W) W cs.toList xs):VR nb (zdR W) W (.agg cs) (.agg xs):=by
 have:=h.agg
 simpa using this
theorem zml{v:Value}{x:AV}(h:CV (zdR W) W [v] [x]):VR nb (zdR W) W v x:=by
 cases h;assumption
end
end Go.Aw
namespace Go.Aw
open Go.RowKit
section
variable {P:Program} {w0:B0} {nt:Nat} {ty:Ty} {s:AS} {d:Option Nat} {t:TypeId} {pos:String} {af:Array Edge} {g:Option (Nat×Bool)}
def BndV(s:AS)(o:Option Operand)(dflt n:Nat):Prop:=match o with
 |none=>n=dflt
 |some x=> ∃ k i,evO s x=some (.int k i)∧i=(n:Int)
theorem BndV.mono{s t:AS}{o:Option Operand}{df n:Nat}(h:BndV s o df n)(hle:s.le t):BndV t o df n:=by
 cases o with
 |none=>exact h
 |some x=>
  obtain⟨k,i,h1,h2⟩:=h
  exact⟨k,i,zV hle h1,h2⟩
theorem zo7{P:Program}{w:World}{β:Bt}{S:St}{a:Act}(hs:SR w0 nt β S s a w){lo hi:Option Operand}{len cap l h:Nat}(h1:BndV s lo 0 l)(h2:BndV s hi len h)(hlh:l≤h)(hh:h≤len)(hc:len≤cap):
 (Instr.sliceBounds true len cap (lo.map a.eval) (hi.map a.eval) none).run P w=.ok (l,h,cap) w:=by
 have e2: ∀ (f:Option Value),f=hi.map a.eval→(match f with
  |some v=>(Instr.sliceBound v cap .sliceAcap).run P w=.ok h w
  |none=>h=len):=by
  intro f hf
  subst hf
  cases hi with
  |none=>exact h2
  |some x=>
   obtain⟨k,i,q1,q2⟩:=h2
   have:=zah hs q1
   generalize e:a.eval x=cv at this
   cases this
   subst q2
   have q3:(h:Int)≤cap:=by omega
   simp[e,Instr.sliceBound,asIntOf,q3]
 have e1: ∀ (f:Option Value),f=lo.map a.eval→(match f with
  |some v=>(Instr.sliceBound v h .sliceB).run P w=.ok l w
  |none=>l=0):=by
  intro f hf
  subst hf
  cases lo with
  |none=>exact h1
  |some x=>
   obtain⟨k,i,q1,q2⟩:=h1
   have:=zah hs q1
   generalize e:a.eval x=cv at this
   cases this
   subst q2
   have q3:(l:Int)≤h:=by omega
   simp[e,Instr.sliceBound,asIntOf,q3]
 have f1:=e1 _ rfl
 have f2:=e2 _ rfl
 cases lo with
 |none=>
  cases hi with
  |none=>simp only[Option.map_none]at f1 f2;subst f1;subst f2;simp[Instr.sliceBounds]
  |some y=>simp only[Option.map_none,Option.map_some]at f1 f2;subst f1;simp[Instr.sliceBounds,f2]
 |some x=>
  cases hi with
  |none=>simp only[Option.map_none,Option.map_some]at f1 f2;subst f2;simp[Instr.sliceBounds,f1]
  |some y=>simp only[Option.map_some]at f1 f2;simp[Instr.sliceBounds,f1,f2]
theorem zrt(hty:TyOK P ty){u e:TypeId}{ui ei:TI}{x:Operand}{lo hi:Option Operand}{es l h:Nat}{rows:List (List AV)}{full:Bool}(hui:ty u=some ui)(hd1:ui.desc=.slice e)(hei:ty e=some ei)
 (hx:evO s x=some (.lst es rows full)) (hes:Nat.beq es ei.size=true) (h1:BndV s lo 0 l) (h2:BndV s hi rows.length h) (hlh:l≤h) (hh:h≤rows.length) (hd:zt nt d=true):
 OkOp P w0 nt ⟨d,.slice u x lo hi none,t,pos,af,g⟩ s (s.put d (.lst es ((rows.take h).drop l) (full&&hi.isNone))):=
 zaE hd fun β S a w hs=>by
  have hes:=Nat.eq_of_beq_eq_true hes
  have hx1:=zah hs hx
  obtain⟨_,_,_,hU⟩:=hty.get hui
  obtain⟨ci,_,_,hE⟩:=hty.get hei
  generalize e1:a.eval x=cx at hx1
  have huu:=hU.slice hd1
  have hrun: ∀ (ad:Option Addr) (cap:Nat),rows.length≤cap→cx=.slice ad rows.length cap→
   execOp a.eval ⟨d,.slice u x lo hi none,t,pos,af,g⟩=(do pure (.value (←Instr.sliceAt u cx (lo.map a.eval) (hi.map a.eval) none)))∧
   (Instr.sliceAt u cx (lo.map a.eval) (hi.map a.eval) none).run P w=.ok (.slice (if cap=l then ad else ad.map (·.add (l*es))) (h-l) (cap-l)) w:=by
   intro ad cap hc e
   refine⟨by simp[execOp,e1],?_⟩
   have hb:=zo7 (P:=P) hs h1 h2 hlh hh hc
   subst e
   simp[Instr.sliceAt,Instr.slice,run_underlying huu,hb,sizeOf,typeInfo,hE.info,hE.size,hes]
  cases hx1 with
  |lst0=>
   obtain⟨f1,f2⟩:=hrun none 0 (Nat.le_refl _) rfl
   have:h=0:=by simpa using hh
   subst this
   obtain rfl:l=0:=by omega
   exact⟨.slice none 0 0,by rw[f1];simp[f2],by simpa using VRi.lst0 _ _⟩
  |lstZ ad=>
   obtain⟨f1,f2⟩:=hrun (some ad) 0 (Nat.le_refl _) rfl
   have:h=0:=by simpa using hh
   subst this
   obtain rfl:l=0:=by omega
   exact⟨.slice (some ad) 0 0,by rw[f1];simp[f2],by simpa using VRi.lstZ ad _ _⟩
  |lst b o n c _ _ _ cells q1 q2 q3 q4 q5 q6=>
   subst q1
   obtain⟨f1,f2⟩:=hrun (some ⟨b,o,none⟩) c q2 rfl
   refine⟨_,by rw[f1];simp[f2];rfl,?_⟩
   have hl:((rows.take h).drop l).length=h-l:=by simp;omega
   have hf:(full&&hi.isNone)=true→c-l=h-l:=by
    intro q
    simp only[Bool.and_eq_true]at q
    have:=q3 q.1
    cases hi with
    |none=>have:h=rows.length:=h2;omega
    |some y=>simp at q
   have hg: ∀ i,i <h-l→((rows.take h).drop l).getD i []=rows.getD (l+i) []:=by
    intro i hi
    simp only[List.getD_eq_getElem?_getD,List.getElem?_drop,List.getElem?_take]
    rw[if_pos (by omega)]
   by_cases ec:c=l
   ·obtain rfl:h=l:=by omega
    rw[if_pos ec]
    exact .lst b o _ _ es _ _ (fun _ _=>undef) hl (by omega) hf (fun i hi=>by omega) (fun i j hi=>by omega) (fun i j hi=>by omega)
   ·rw[if_neg ec]
    simp only[Go.WideShapes.add_plain]
    refine .lst b (o+l*es) _ _ es _ _ (fun i j=>cells (l+i) j) hl (by omega) hf (fun i hi=>?_) (fun i j hi hj=>?_) (fun i j hi hj=>?_)
    ·rw[hg i hi];exact q4 _ (by omega)
    ·have:=q5 (l+i) j (by omega) hj
     rwa[show o+(l+i)*es+j=o+l*es+i*es+j by rw[Nat.add_mul];omega]at this
    ·rw[hg i hi];exact q6 _ _ (by omega) hj
theorem zbO(hty:TyOK P ty){u:TypeId}{x:Operand}{lo hi:Option Operand}{es:Nat}{rows:List (List AV)}{full:Bool}(l h:Nat)
 (hx:evO s x=some (.lst es rows full)) (hq:zrE ty u es=true) (h1:BndV s lo 0 l) (h2:BndV s hi rows.length h) (hlh:l≤h) (hh:h≤rows.length) (hd:zt nt d=true):
 MStep P w0 nt ⟨d,.slice u x lo hi none,t,pos,af,g⟩ s (.lst es ((rows.take h).drop l) (full&&hi.isNone)) []:=by
 intro t2 hle _
 obtain⟨ui,e,ei,k1,k2,k3,k4⟩:=zmF hq
 exact zrt hty k1 k2 k3 (zV hle hx) k4 (h1.mono hle) (h2.mono hle) hlh hh hd
def zvN(P:Program)(u:TypeId):Option IntKind:=match P.underlying u with
 |some (.int k)=>some k
 |_=>none
theorem zvZ{u:TypeId}{k:IntKind}(h:zvN P u=some k):P.underlying u=some (.int k):=by
 unfold zvN at h
 split at h
 ·rename_i q;rw[q];obtain rfl:=Option.some.inj h;rfl
 ·cases h
theorem zx2{src dst:TypeId}{x:Operand}{k k':IntKind}{n:Int}(hx:evO s x=some (.int k n))(h1:(zvN P src).isSome=true)(h2:zvN P dst=some k')(hd:zt nt d=true):
 MStep P w0 nt ⟨d,.convert src dst x,t,pos,af,g⟩ s (.int k' (k'.wrap n)) []:=by
 intro t2 hle _
 refine zaE hd fun β S a w hs=>?_
 have hx1:=zah hs (zV hle hx)
 generalize e1:a.eval x=cx at hx1
 cases hx1
 obtain⟨k0,h1⟩:=Option.isSome_iff_exists.1 h1
 exact⟨.int k' (k'.wrap n),by simp[execOp,e1,convert,run_underlying (zvZ h1),run_underlying (zvZ h2),Conv.intToInt],.int _ _⟩
theorem zyW{xt yt:TypeId}{x y:Operand}{k:IntKind}{a b:Int}(hx:evO s x=some (.int k a))(hy:evO s y=some (.int k b))(hb:b≠0)(hd:zt nt d=true):
 MStep P w0 nt ⟨d,.binOp .rem xt x y yt,t,pos,af,g⟩ s (.int k (a.tmod b)) []:=by
 intro t2 hle _
 refine zaE hd fun β S ac w hs=>?_
 have hx1:=zah hs (zV hle hx)
 have hy1:=zah hs (zV hle hy)
 generalize e1:ac.eval x=cx at hx1
 generalize e2:ac.eval y=cy at hy1
 cases hx1
 cases hy1
 have hg:(eqGuard .rem xt x y (.int k a) (.int k b)).run P w=.ok () w:=by
  unfold eqGuard
  simp
 exact⟨.int k (a.tmod b),by simp[execOp,e1,e2,hg,binOp,Op.intDiv,hb],.int _ _⟩
theorem OkOp.less{o:Oper}{s' s'':AS}(h:OkOp P w0 nt o s s')(hl:Less s' s''):OkOp P w0 nt o s s'':=fun β S a w next Q hs hn=>
 h β S a w next Q hs fun β' S' a' w' hs'=>let ⟨_,_,q⟩:=hl w0 nt β' S' a' w' hs';hn _ _ a' w' q
theorem zty{α:Type}(f:Nat→Option α)(i:Nat)(a b:α):upd (upd f i a) i b=upd f i b:=by
 funext j
 by_cases e:j=i
 ·subst e;rw[zR,zR]
 ·rw[zJ _ _ e,zJ _ _ e,zJ _ _ e]
theorem zwj(hty:TyOK P ty){u e es b:Nat}{x y:Operand}{q:AV}{es0 es2:Nat}{rows rows2:List (List AV)}(id:Nat)(he:zl7 ty u=some (e,es,b))(hid:(s.blk id).isNone=true)(hx:evO s x=some (.lst es0 rows true))
 (hes:(rows.isEmpty||Nat.beq es0 es)=true) (hy:evO s y=some q) (hq:zaP s.blk q=some (es2,rows2)) (hes2:Nat.beq es2 es=true)
 (hne:rows2≠[]) (hn:rows.length+rows2.length≤4194304) (hb:Nat.ble b 65536=true) (hb0:Nat.blt 0 b=true) (hd:zt nt d=true):
 MStep P w0 nt ⟨d,.call {callee:=.builtin .append,args:= #[x,y],argTypes:= #[u,u]},t,pos,af,g⟩ s (.arr id) [(id,.arr e es (rows++rows2) false)]:=by
 have h:=ze7 (P:=P) (w0:=w0) (t:=t) (pos:=pos) (af:=af) (g:=g) hty id he hid hx hes hy hq hes2 hne hn hb hb0 hd
 intro t2 hle hfr
 refine(h t2 hle (fun p hp q=>?_)).less ?_
 ·obtain rfl:=List.mem_singleton.1 hp
  exact hfr (id,.arr e es (rows++rows2) false) (List.mem_singleton.2 rfl) q
 ·have e1:(t2.eff d (.arr id) [(id,.arr e es (rows++rows2) true)]).blk id=some (.arr e es (rows++rows2) true):=zR _ _ _
  have:=zaF id e1
  refine this.trans (fun w0 nt β S a w hs=>⟨β,S,?_⟩)
  have e2:(t2.eff d (.arr id) [(id,.arr e es (rows++rows2) true)]).setB id (.arr e es (rows++rows2) false)=t2.eff d (.arr id) [(id,.arr e es (rows++rows2) false)]:=by
   simp only[AS.setB,AS.eff,AS.put,setBs,zty]
  rwa[e2]at hs
end
end Go.Aw
namespace Go.Aw
open Go.RowKit
section
variable {P:Program} {ty:Ty} {w0:B0} {nt:Nat} {s s':AS} {ops:Array Oper} {l:List Oper} {o:Oper} {K:AS→Prop} {d:Option Nat} {t:TypeId} {pos:String} {af:Array Edge} {g:Option (Nat×Bool)}
structure RC (P:Program) (f:Nat) (args:List AV) (R:AV→Prop):Prop where
 pc: ∀ (w:World) (S0:St) (ca:Array Value),(∀ b o,S0 b o→b <w.heap.size)→ca.size=args.length→(∀ j,j <args.length→VR nb S0 w (ca.getD j undef) (args.getD j .any))→
  Calls P f ca w fun e w'=> ∃ res,R res∧ ∃ v S',e=.returned v∧Below w.heap.size w w'∧(∀ b o,S0 b o→S' b o)∧(∀ b o,S' b o→b <w.heap.size→S0 b o)∧(∀ b o,S' b o→b <w'.heap.size)∧RV S' w w' v res
 fn: ∃ fn,P.funcs[f]? =some fn∧fn.body.isNone=false∧(fn.name=="runtime.NumGoroutine")=false
theorem FC.rc{f:Nat}{args:List AV}{res:AV}{R:AV→Prop}(h:FC P f args res)(hr:R res):RC P f args R:=
 ⟨fun w S0 ca h1 h2 h3=>(h.pc w S0 ca h1 h2 h3).mono fun _ _ q=>⟨res,hr,q⟩,h.fn⟩
theorem RC.mono{f:Nat}{args:List AV}{R R':AV→Prop}(h:RC P f args R)(hr: ∀ r,R r→R' r):RC P f args R':=
 ⟨fun w S0 ca h1 h2 h3=>(h.pc w S0 ca h1 h2 h3).mono fun _ _ ⟨r,q1,q2⟩=>⟨r,hr r q1,q2⟩,h.fn⟩
theorem zsf{f:Nat}{as:Array Operand}{ts:Array TypeId}{xs:List AV}{R:AV→Prop}(id:Nat)(ha:za4 s as.toList=some xs)(hc:RC P f xs R)(hd:zt nt d=true)
 (r: ∀ res,R res→ ∃ e,zhh id res=some e∧e.2.all (fun p=>(s.blk p.1).isNone)=true∧WL P w0 nt ops l (s.eff d e.1 e.2) K):
 WL P w0 nt ops (⟨d,.call {callee:=.value (.func f),args:=as,argTypes:=ts},t,pos,af,none⟩::l) s K:=by
 intro β S a w Q hs hq
 refine wpList_plain rfl fun N hN=>?_
 obtain⟨fn,hf,hbody,hname⟩:=hc.fn
 obtain⟨e1,e2⟩:=zc2 hs ha
 have hr:(execOp a.eval ⟨d,.call {callee:=.value (.func f),args:=as,argTypes:=ts},t,pos,af,none⟩).run P w=.ok (.enter f (as.map a.eval)) w:=by
  have hcf:(callFunc f (as.map a.eval)).run P w=.ok (.enter f (as.map a.eval)) w:=by
   unfold callFunc
   rw[Sem.run_bind,run_program,Result.andThen_ok]
   simp only[hf,hname,hbody,Bool.false_eq_true,if_false,Sem.run_pure]
  simp[execOp,resolve,Act.eval,Deferred.ofValue,invoke,hcf]
 unfold Oper.wp
 rw[hr]
 simp only[Oper.upon]
 have hgs:w0.heap.size≤w.heap.size:=hs.hh.hbelow.size
 refine(hc.pc w S (as.map a.eval) hs.hh.hlt (by simpa using e1) (fun j hj=>by
  have:=e2 j hj
  rw[←zag,Array.toList_map];exact this)).mono ?_
 rintro e w' ⟨res,hR,v,S',rfl,hB,h1,h2,h3,hv⟩
 obtain⟨⟨y,bs⟩,ht,hid,hk⟩:=r res hR
 have hn: ∀ p∈bs,s.blk p.1=none:=fun p hp=>by
  have:=List.all_eq_true.1 hid p hp
  cases q:s.blk p.1 with
  |none=>rfl
  |some k=>simp[q]at this
 obtain⟨q1,q2⟩:=hs.hh.extS hB h1 h2 h3
 obtain⟨β',r1,r2,r3⟩:=zmv q1 hgs (zjq ht hn) hv (fun b hb i bj kj p q l=>by
  obtain⟨bi,z1,z2,_⟩:=hs.hh.hblk i kj q
  rw[p]at z1
  obtain rfl:=Option.some.inj z1
  have:=z2.lt l
  omega)
 have hs2:SR w0 nt β' S' ⟨s.env,setBs s.blk bs⟩ a w':=⟨r1,fun u z q=>r3 (q2 (hs.henv u z q)),hs.hsize,hs.hdefers⟩
 exact hN _ _ (hk β' S' _ w' Q (hs2.put hd r2) hq)
def zvq(ty:Ty)(rs:List ResultVar)(R:AV→Prop)(e:Exit)(s':AS):Prop:= ∃ res,R res∧zdS ty rs res e s'
theorem zsl(hty:TyOK P ty){f:Nat}{fn:Func}{c:Code}{args:List AV}{R:AV→Prop}(hf:P.funcs[f]? =some fn)(hb:fn.body=some c)(hname:(fn.name=="runtime.NumGoroutine")=false)(hn:Nat.ble args.length fn.ntmps=true)
 (h: ∀ w0:B0,AC P w0 fn.ntmps c ⟨fun t=>args[t]?,fun _=>none⟩ (zvq ty fn.results.toList R)):RC P f args R:=by
 refine⟨?_,fn,hf,by rw[hb];rfl,hname⟩
 intro w S0 ca hS hsz hca
 have hn:=Nat.le_of_ble_eq_true hn
 refine calls_of_wp hf hb (h ⟨w,S0,(· <w.heap.size),fun _ h=>h⟩ nb S0 _ _ _ ⟨⟨fun id k q=>(by cases q),fun id bi q=>(by cases q),fun i j bi bj ki kj _ q=>(by cases q),fun b o q=>q,fun b o q _=>q,hS,BelowP.refl _ _⟩,?_,?_,rfl⟩ ?_)
 ·intro t x hx
  have hlt:t <args.length:=(List.getElem?_eq_some_iff.1 hx).1
  have:=hca t hlt
  have hx':args[t]? =some x:=hx
  have e1:args.getD t .any=x:=by rw[List.getD_eq_getElem?_getD,hx'];rfl
  have e2:(ca++Array.replicate (fn.ntmps-ca.size) undef).getD t undef=ca.getD t undef:=by
   simp only[Array.getD_eq_getD_getElem?]
   rw[Array.getElem?_append_left (by omega)]
  rw[e1]at this
  simp only[e2]
  exact this
 ·simp only[Array.size_append,Array.size_replicate];omega
 ·intro e β' S' a' w' s' hk hs'
  obtain⟨res,hR,he,s2,hl2,vs,h1,h2⟩:=hk
  obtain⟨β',S',hs'⟩:=hl2 _ _ _ _ _ _ hs'
  obtain⟨us,h3,h4,h5⟩:=zhn hty hs' h1
  have hres:(results fn a'.tmps).run P w'=.ok (if h:us.toArray.size=1 then us.toArray[0]else .tuple us.toArray) w':=by
   rw[zeT,Array.mapM_eq_mapM_toList]
   simp only[Sem.run_bind,Sem.run_map,h3,Result.andThen_ok,Sem.run_pure]
  have hpost:a'.defers=[]∧ ∃ v,(results fn a'.tmps).run P w'=.ok v w'∧ ∃ res,R res∧ ∃ v2 S2,Ending.returned v=Ending.returned v2∧Below w.heap.size w w'∧(∀ b o,S0 b o→S2 b o)∧(∀ b o,S2 b o→b <w.heap.size→S0 b o)∧(∀ b o,S2 b o→b <w'.heap.size)∧RV S2 w w' v2 res:=
   ⟨hs'.hdefers,_,hres,res,hR,_,S',rfl,hs'.hh.hbelow.below,hs'.hh.hold,hs'.hh.hnew,hs'.hh.hlt,by
    rcases h2 with h2|h2
    ·obtain⟨x,h2,h6⟩:=h2
     exact zn0 hs'.hh h4 h5 h2 h6
    ·exact zmU (fun b hb=>Nat.le_of_not_lt hb) hs'.hh h4 h5 h2⟩
  rcases he with rfl|rfl
  ·exact hpost
  ·exact hpost
end
end Go.Aw
namespace Go.Aw
open Go.RowKit
section
variable {P:Program} {ty:Ty} {w0:B0} {nt:Nat} {s:AS} {ops:Array Oper} {pt:List (List Nat)} {r:List Ent} {l:List Oper} {F:List Ent→Prop} {d:Option Nat} {t:TypeId} {pos:String} {af:Array Edge}
theorem zuI{op:Op}{j u:Nat}{b:Bool}(hj:(ops[j]?).bind (·.dst)=some u)(ht:(rst pt s r r.length).env u=some (.bool b))(q:WD P w0 nt ops pt s r (⟨d,op,t,pos,af,none⟩::l) F):
 WD P w0 nt ops pt s r (⟨d,op,t,pos,af,some (j,b)⟩::l) F:=by
 obtain⟨es,h1,h2,h3⟩:=q
 refine⟨es,h1,fun k o e hk he=>?_,h3⟩
 cases k with
 |zero=>
  obtain rfl:=Option.some.inj hk
  obtain⟨q1,q2⟩:=h2 0 _ e rfl he
  refine⟨q1,.inr ⟨j,b,u,rfl,hj,.inl ⟨?_,?_⟩⟩⟩
  ·simpa using ht
  ·rcases q2 with q2|⟨_,_,_,q3,_⟩
   ·exact q2.2
   ·cases q3
 |succ k=>exact h2 (k+1) o e hk he
end
end Go.Aw
namespace Go.Aw
open Go.RowKit
theorem HR.appW{w0:B0}{w w':World}{β:Bt}{S:St}{blk:Bk}(h:HR w0 β S blk w){id0 id e es:Nat}{rows rows':List (List AV)}{bi:BI}(hk:blk id0=some (.arr e es rows true))(hbi:β id0=some bi)(hid:blk id=none)
 (hsz:w'.heap.size=w.heap.size) (hot: ∀ b,b≠bi.b→w'.heap[b]? =w.heap[b]?) (hos:w'.os=w.os) (htp:w'.tape=w.tape) (hout:w'.output=w.output) {cs':Array Value}
 (hcs:w'.heap[bi.b]? =some (.cells cs' e (0,0))) (hcz:cs'.size=bi.c*es) (hc:rows'.length≤bi.c)
 (hrows:(∀ {v x},VR nb S w v x→VR nb S w' v x)→ ∀ i,i <rows'.length→(rows'.getD i []).length=es∧CR nb S w' cs' (i*es) (rows'.getD i [])):
 HR w0 (upd β id ⟨bi.b,rows'.length,bi.c,es⟩) S (upd (upd blk id0 .gone) id (.arr e es rows' true)) w'∧ ∀ {v x},VR β S w v x→VR (upd β id ⟨bi.b,rows'.length,bi.c,es⟩) S w' v x:=by
 obtain⟨bi2,e1,hbr,hge⟩:=h.hblk id0 _ hk
 rw[hbi]at e1
 obtain rfl:=Option.some.inj e1
 have hblt:=hbr.lt rfl
 obtain⟨b3,b4,cs,b5,b6,b7,b8,b9,b10,b11⟩:=hbr
 have hne:id0≠id:=fun q=>by rw[q,hid]at hk;cases hk
 have hβn:β id=none:=by
  cases q:β id with
  |none=>rfl
  |some b=>obtain⟨k,hk2⟩:=h.hdom id b q;rw[hid]at hk2;cases hk2
 have hb': ∀ i b,β i=some b→upd β id ⟨bi.b,rows'.length,bi.c,es⟩ i=some b:=by
  intro i b q
  by_cases e:i=id
  ·subst e;rw[hβn]at q;cases q
  ·rw[zJ _ _ e];exact q
 have hSm: ∀ b o,S b o→S b o∧w'.cell? ⟨b,o,none⟩=w.cell? ⟨b,o,none⟩:=by
  intro b o q
  refine⟨q,?_⟩
  by_cases e:b=bi.b
  ·subst e;exact absurd q (b10 rfl o)
  ·exact World.cell?_of_block (hot b e)
 have hv: ∀ {v x},VR β S w v x→VR (upd β id ⟨bi.b,rows'.length,bi.c,es⟩) S w' v x:=fun q=>q.mono hb' hSm
 have hblk: ∀ i kk,i≠id→upd (upd blk id0 .gone) id (.arr e es rows' true) i=some kk→(i=id0∧kk=.gone)∨(i≠id0∧blk i=some kk):=by
  intro i kk hi q
  rw[zJ _ _ hi]at q
  by_cases e2:i=id0
  ·subst e2;rw[zR]at q;exact .inl ⟨rfl,(Option.some.inj q).symm⟩
  ·rw[zJ _ _ e2]at q;exact .inr ⟨e2,q⟩
 refine⟨⟨?_,?_,?_,h.hold,h.hnew,?_,?_⟩,hv⟩
 ·intro i kk q
  by_cases ei:i=id
  ·subst ei
   rw[zR]at q
   obtain rfl:=Option.some.inj q
   exact⟨_,zR _ _ _,⟨rfl,rfl,cs',hcs,hc,b7,hcz,hrows (fun q=>q.mono (fun _ _ q=>q) hSm),fun _=>b10 rfl,(fun q=>by cases q),fun _ q=>by cases q⟩,fun _=>hge rfl⟩
  ·rcases hblk i kk ei q with⟨rfl,rfl⟩|⟨e2,q⟩
   ·exact⟨bi,hb' _ _ hbi,trivial,fun q=>by cases q⟩
   ·obtain⟨b2,h1,h2,h3⟩:=h.hblk i kk q
    have hneb:kk.live=true→b2.b≠bi.b:=fun hl2=>h.hinj i id0 b2 bi kk _ e2 q hl2 hk rfl h1 hbi
    exact⟨b2,hb' _ _ h1,h2.ext hb' hSm (fun hl2=>hot _ (hneb hl2)) (fun _ o q2=>q2),h3⟩
 ·intro i b q
  by_cases ei:i=id
  ·subst ei;exact⟨_,zR _ _ _⟩
  ·rw[zJ _ _ ei]at q
   by_cases e2:i=id0
   ·subst e2;exact⟨_,by rw[zJ _ _ ei,zR]⟩
   ·obtain⟨k2,hk2⟩:=h.hdom i b q
    exact⟨k2,by rw[zJ _ _ ei,zJ _ _ e2];exact hk2⟩
 ·have one: ∀ j bj kj,j≠id→upd (upd blk id0 .gone) id (.arr e es rows' true) j=some kj→kj.live=true→upd β id ⟨bi.b,rows'.length,bi.c,es⟩ j=some bj→bj.b≠bi.b:=by
   intro j bj kj hj q2 l2 p2
   rw[zJ _ _ hj]at p2
   rcases hblk j kj hj q2 with⟨rfl,rfl⟩|⟨e2,q2⟩
   ·cases l2
   ·exact h.hinj j id0 bj bi kj _ e2 q2 l2 hk rfl p2 hbi
  intro i j b1 b2 k1 k2 hne2 q1 l1 q2 l2 p1 p2
  by_cases ei:i=id
  ·subst ei
   rw[zR]at p1
   obtain rfl:=Option.some.inj p1
   exact fun q=>one j b2 k2 (fun e=>hne2 e.symm) q2 l2 p2 q.symm
  ·by_cases ej:j=id
   ·subst ej
    rw[zR]at p2
    obtain rfl:=Option.some.inj p2
    exact one i b1 k1 ei q1 l1 p1
   ·rw[zJ _ _ ei]at p1
    rw[zJ _ _ ej]at p2
    rcases hblk i k1 ei q1 with⟨rfl,rfl⟩|⟨e2,q1⟩
    ·cases l1
    ·rcases hblk j k2 ej q2 with⟨rfl,rfl⟩|⟨e3,q2⟩
     ·cases l2
     ·exact h.hinj i j b1 b2 k1 k2 hne2 q1 l1 q2 l2 p1 p2
 ·intro b o q
  rw[hsz]
  exact h.hlt b o q
 ·refine⟨hos.trans h.hbelow.os,htp.trans h.hbelow.tape,hout.trans h.hbelow.output,by rw[hsz];exact h.hbelow.size,fun b hb=>?_⟩
  rw[hot b (fun e=>hge rfl (e▸hb))]
  exact h.hbelow.block b hb
section
variable {P:Program} {ty:Ty} {w0:B0} {nt:Nat} {s:AS} {d:Option Nat} {t:TypeId} {pos:String} {af:Array Edge} {g:Option (Nat×Bool)}
theorem zou(hty:TyOK P ty){u e:Nat}{ui ei:TI}{x y:Operand}{q:AV}{id0 es es2:Nat}{rows rows2:List (List AV)}(id:Nat)(hui:ty u=some ui)(hd1:ui.desc=.slice e)(hei:ty e=some ei)
 (hid:s.blk id=none) (hx:evO s x=some (.arr id0)) (hk:s.blk id0=some (.arr e es rows true)) (hes:Nat.beq es ei.size=true) (hy:evO s y=some q) (hq:zaP s.blk q=some (es2,rows2)) (hes2:Nat.beq es2 ei.size=true)
 (hne:rows2≠[]) (hb:(rows.length+rows2.length)*ei.bytes≤140737488355328) (hb0:Nat.blt 0 ei.bytes=true) (hd:zt nt d=true):
 OkOp P w0 nt ⟨d,.call {callee:=.builtin .append,args:= #[x,y],argTypes:= #[u,u]},t,pos,af,g⟩ s (((s.setB id0 .gone).setB id (.arr e es (rows++rows2) true)).put d (.arr id)):=by
 intro β S a w next Q hs hn
 have hb0:=zfF hb0
 obtain rfl:=Nat.eq_of_beq_eq_true hes2
 obtain rfl:=Nat.eq_of_beq_eq_true hes
 obtain⟨_,_,_,hU⟩:=hty.get hui
 obtain⟨ci,dd,z,hE⟩:=hty.get hei
 have h1:=zah hs hx
 have h2:=zah hs hy
 obtain⟨b2,o2,c2,e2,hsrc⟩:=zoD hs.hh h2 hq hne
 obtain⟨hn1,hn2⟩:=zcC (w:=w) (b:=b2) (o:=o2) (n:=rows2.length) (fun i hi j hj=>by obtain⟨u,q1,q2,_⟩:=(hsrc i hi).2 j hj;exact⟨u,q1,q2⟩)
 have hlen:0 <rows2.length:=List.length_pos_iff.2 hne
 have hsmall:rows.length+rows2.length≤140737488355328:=by
  have:(rows.length+rows2.length)*1≤(rows.length+rows2.length)*ei.bytes:=Nat.mul_le_mul_left _ hb0
  omega
 have hl2:(zam w b2 o2 (rows2.length*ei.size)).length=rows2.length*ci.size:=by rw[zaf,hE.size]
 generalize e1:a.eval x=cx at h1
 cases h1
 rename_i bi hbi
 have hidne:id≠id0:=fun q=>by rw[q,hk]at hid;cases hid
 obtain⟨bi2,q1,hbr,hge⟩:=hs.hh.hblk id0 _ hk
 rw[hbi]at q1
 obtain rfl:=Option.some.inj q1
 obtain⟨b3,b4,cs,b5,b6,b7,b8,b9,b10,b11⟩:=hbr
 have hrows1: ∀ i,i <rows.length→(rows.getD i []).length=ei.size∧ ∀ j,j <ei.size→VR nb S w (cs.getD (i*ei.size+j) undef) ((rows.getD i []).getD j .any)∧(cs.getD (i*ei.size+j) undef).oneCell'=true:=
  fun i hi=>⟨(b9 i hi).1,fun j hj=>(b9 i hi).2 j (by rw[(b9 i hi).1];exact hj)⟩
 have hrows2:=zdF (S:=S) (w:=w) (b:=b2) (o:=o2) (es:=ei.size) (rows:=rows2) (fun i hi=>⟨(hsrc i hi).1,fun j hj=>(hsrc i hi).2 j hj⟩)
 have hfin: ∀ v' w',(Builtin.append_ #[u,u] t #[a.eval x,a.eval y]).run P w=.ok v' w'→next (a.put d v') w'→(Oper.wp P ⟨d,.call {callee:=.builtin .append,args:= #[x,y],argTypes:= #[u,u]},t,pos,af,g⟩ a w next Q):=by
  intro v' w' hr hnx
  unfold Oper.wp execOp
  simp[resolve,invoke,builtin,hr]
  exact hnx
 rw[e1,e2]at hfin
 have hpl:(cs.toList.take (rows.length*ei.size)).length=rows.length*ei.size:=by
  have hz:cs.toList.length=bi.c*ei.size:=by simp[b8]
  have:=Nat.mul_le_mul_right ei.size b6
  rw[b4]at this
  rw[List.length_take,hz]
  omega
 have hpg: ∀ m,m <rows.length*ei.size→(cs.toList.take (rows.length*ei.size)).getD m undef=cs.getD m undef:=by
  intro m hm
  rw[←zag]
  simp only[List.getD_eq_getElem?_getD,List.getElem?_take,if_pos hm]
 have hrowsP: ∀ i,i <rows.length→(rows.getD i []).length=ei.size∧ ∀ j,j <ei.size→VR nb S w ((cs.toList.take (rows.length*ei.size)).getD (i*ei.size+j) undef) ((rows.getD i []).getD j .any)∧((cs.toList.take (rows.length*ei.size)).getD (i*ei.size+j) undef).oneCell'=true:=by
  intro i hi
  refine⟨(hrows1 i hi).1,fun j hj=>?_⟩
  rw[hpg _ (zcA hi hj)]
  exact(hrows1 i hi).2 j hj
 by_cases hroom:bi.n+rows2.length≤bi.c
 ·have hfit:bi.n*ci.size+(zam w b2 o2 (rows2.length*ei.size)).length≤cs.size:=by
   rw[hl2,b8,hE.size, ←Nat.add_mul];exact Nat.mul_le_mul_right _ hroom
  have hr:=run_append_room (P:=P) w u t e ci (hU.slice hd1) hE.info bi.b bi.n bi.c cs b5 ⟨b2,o2,none⟩ rows2.length c2 (zam w b2 o2 (rows2.length*ei.size)) hl2 hn1 hn2 hroom hfit
  refine hfin _ _ hr ?_
  rw[b4,hE.size]
  rw[b4,hE.size]at hfit
  rw[b4]at hroom
  have hsz':((cs.toList.take (rows.length*ei.size)++zam w b2 o2 (rows2.length*ei.size)++cs.toList.drop (rows.length*ei.size+(zam w b2 o2 (rows2.length*ei.size)).length)).toArray).size=bi.c*ei.size:=by
   simp only[List.size_toArray,List.length_append,hpl,List.length_drop,Array.length_toList]
   omega
  obtain⟨hh2,hv2⟩:=hs.hh.appW (id:=id) (rows':=rows++rows2) (w':=w.setRow bi.b (cs.toList.take (rows.length*ei.size)++zam w b2 o2 (rows2.length*ei.size)++cs.toList.drop (rows.length*ei.size+(zam w b2 o2 (rows2.length*ei.size)).length)).toArray)
   hk hbi hid (by simp) (fun b q=>setRow_other w _ _ _ q) rfl rfl rfl (setRow_heap w _ cs _ e _ b5) hsz' (by rw[List.length_append];exact hroom)
   (fun hv=>zdT hpl (zaf _ _ _ _) hrowsP hrows2 hv)
  have hs2:SR w0 nt (upd β id ⟨bi.b,(rows++rows2).length,bi.c,ei.size⟩) S ((s.setB id0 .gone).setB id (.arr e ei.size (rows++rows2) true)) a _:=
   ⟨hh2,fun u y q=>hv2 (hs.henv u y q),hs.hsize,hs.hdefers⟩
  have:=hs2.put hd (x:=.arr id) (.arr id _ (zR _ _ _))
  simp only[List.length_append]at this
  exact hn _ _ _ _ this
 ·have hread: ∀ i,i <rows.length→ ∀ j,j <ei.size→ ∃ u,w.cell? ⟨bi.b,0+(i*ei.size+j),none⟩=some u∧u.oneCell'=true∧VR nb S w u ((rows.getD i []).getD j .any):=by
   intro i hi j hj
   have hlt:i*ei.size+j <cs.size:=by
    rw[b8];exact Nat.lt_of_lt_of_le (zcA hi hj) (Nat.mul_le_mul_right _ (by omega))
   obtain⟨r1,r2⟩:=(hrows1 i hi).2 j hj
   exact⟨cs.getD (i*ei.size+j) undef,by rw[Nat.zero_add];simp[World.cell?,b5,Array.getD,hlt],r2,r1⟩
  obtain⟨ho1,_⟩:=zcC (w:=w) (b:=bi.b) (o:=0) (n:=rows.length) (fun i hi j hj=>by obtain⟨u,q1,q2,_⟩:=hread i hi j hj;exact⟨u,q1,q2⟩)
  have ho2:=zdF (S:=S) (w:=w) (b:=bi.b) (o:=0) (es:=ei.size) (rows:=rows) (fun i hi=>⟨(hrows1 i hi).1,fun j hj=>hread i hi j hj⟩)
  have hr:=run_append_grow (P:=P) w u t e ci z (hU.slice hd1) hE.info hE.zero ⟨bi.b,0,none⟩ bi.n bi.c (zam w bi.b 0 (rows.length*ei.size)) (by rw[zaf,hE.size,b4]) ho1
   ⟨b2,o2,none⟩ rows2.length c2 (zam w b2 o2 (rows2.length*ei.size)) hl2 hn1 (by omega) (by omega) (growslice_fits (by omega) (by rw[hE.bytes,b4];omega))
  refine hfin _ _ hr ?_
  rw[b4]
  generalize hcap:grownCap w (rows.length+rows2.length) bi.c e=cap
  have hc1:rows.length+rows2.length≤cap:=hcap▸grownCap_ge w _ _ e
  have hc2:cap≤maxLen:=hcap▸grownCap_le_maxLen w _ _ _ (by simp only[maxLen];omega)
  generalize hw':w.drew.alloc (.cells ((zam w bi.b 0 (rows.length*ei.size)).toArray++(zam w b2 o2 (rows2.length*ei.size)).toArray++Builtin.zeroCells z.cells (cap-(rows.length+rows2.length))) e)=w'
  have hB:Below w.heap.size w w':=by rw[←hw'];exact(Below.refl _ _).drew.alloc (Nat.le_refl _) _
  have hw'sz:w'.heap.size=w.heap.size+1:=by rw[←hw'];simp
  have hheap:w'.heap[w.heap.size]? =some (.cells (zam w bi.b 0 (rows.length*ei.size)++zam w b2 o2 (rows2.length*ei.size)++(Builtin.zeroCells z.cells (cap-(rows.length+rows2.length))).toList).toArray e (0,0)):=by
   rw[←hw',show w.heap.size=w.drew.heap.size from rfl,heap_alloc_new]
   congr 2
   apply Array.ext'
   simp
  have ht:=hs.hh.turn (k':=.gone) (S':=S) hk rfl hbi (fun b o=>⟨.inl,fun q=>q.elim (fun q=>q) (fun q=>q.2)⟩) (fun _=>trivial)
  have hid2:upd s.blk id0 .gone id=none:=by rw[zJ _ _ hidne];exact hid
  have hn2:=ht.1.new hB hid2 (k:=.arr e ei.size (rows++rows2) true) (bi:=⟨w.heap.size,(rows++rows2).length,cap,ei.size⟩) (S':=S)
   (fun b o=>⟨.inl,fun q=>q.elim (fun q=>q) (fun q=>q.2.2)⟩) (Nat.le_refl _)
   ⟨rfl,rfl,_,hheap,by simp only[List.length_append];exact hc1,hc2,by
    simp only[List.size_toArray,List.length_append,zaf,Array.length_toList,size_zeroCells,hE.zsize]
    rw[←Nat.add_mul, ←Nat.add_mul]
    congr 1
    omega,zdT (zaf _ _ _ _) (zaf _ _ _ _) ho2 hrows2 (fun q=>q.mono (fun _ _ q=>q) (fun b o q2=>⟨q2,zch hB (hs.hh.hlt b o q2)⟩)),
    (fun _ o q=>absurd (hs.hh.hlt _ _ q) (Nat.lt_irrefl _)),(fun q=>by cases q),fun _ q=>by cases q⟩
  have hs2:SR w0 nt (upd β id ⟨w.heap.size,(rows++rows2).length,cap,ei.size⟩) S ((s.setB id0 .gone).setB id (.arr e ei.size (rows++rows2) true)) a w':=
   ⟨hn2.1,fun u y q=>hn2.2 (ht.2 (hs.henv u y q)),hs.hsize,hs.hdefers⟩
  have:=hs2.put hd (x:=.arr id) (.arr id _ (zR _ _ _))
  simp only[List.length_append]at this
  exact hn _ _ _ _ this
theorem zgH(hty:TyOK P ty){u e es b:Nat}{x y:Operand}{q:AV}{id0 es0 es2:Nat}{rows rows2:List (List AV)}(id:Nat)(he:zl7 ty u=some (e,es,b))(hid:(s.blk id).isNone=true)(hx:evO s x=some (.arr id0))
 (hk:s.blk id0=some (.arr e es0 rows true)) (hes:Nat.beq es0 es=true) (hy:evO s y=some q) (hq:zaP s.blk q=some (es2,rows2)) (hes2:Nat.beq es2 es=true)
 (hne:rows2≠[]) (hn:rows.length+rows2.length≤4194304) (hb:Nat.ble b 65536=true) (hb0:Nat.blt 0 b=true) (hd:zt nt d=true):
 MStep P w0 nt ⟨d,.call {callee:=.builtin .append,args:= #[x,y],argTypes:= #[u,u]},t,pos,af,g⟩ s (.arr id) [(id0,.gone),(id,.arr e es0 (rows++rows2) true)]:=by
 intro t2 hle hfr
 obtain⟨ui,ei,h1,h2,h3,rfl,rfl⟩:=zgR he
 exact zou hty id h1 h2 h3 (hfr (_,_) (List.mem_cons_of_mem _ (List.mem_singleton.2 rfl)) (Option.isNone_iff_eq_none.1 hid)) (zV hle hx) (hle.2 _ _ hk) hes (zV hle hy) (zcJ hle hq) hes2 hne (zfU hn hb) hb0 hd
theorem zzi(hty:TyOK P ty){u e es b:Nat}{x y:Operand}{q:AV}{id0 es0 es2:Nat}{rows rows2:List (List AV)}(id:Nat)(he:zl7 ty u=some (e,es,b))(hid:(s.blk id).isNone=true)(hx:evO s x=some (.arr id0))
 (hk:s.blk id0=some (.arr e es0 rows true)) (hes:Nat.beq es0 es=true) (hy:evO s y=some q) (hq:zaP s.blk q=some (es2,rows2)) (hes2:Nat.beq es2 es=true)
 (hne:rows2≠[]) (hn:rows.length+rows2.length≤4194304) (hb:Nat.ble b 65536=true) (hb0:Nat.blt 0 b=true) (hd:zt nt d=true):
 MStep P w0 nt ⟨d,.call {callee:=.builtin .append,args:= #[x,y],argTypes:= #[u,u]},t,pos,af,g⟩ s (.arr id) [(id0,.gone),(id,.arr e es0 (rows++rows2) false)]:=by
 have h:=zgH (P:=P) (w0:=w0) (t:=t) (pos:=pos) (af:=af) (g:=g) hty id he hid hx hk hes hy hq hes2 hne hn hb hb0 hd
 intro t2 hle hfr
 refine(h t2 hle (fun p hp q=>?_)).less ?_
 ·rcases List.mem_cons.1 hp with rfl|hp
  ·exact hfr (id0,.gone) List.mem_cons_self q
  ·obtain rfl:=List.mem_singleton.1 hp
   exact hfr (id,.arr e es0 (rows++rows2) false) (List.mem_cons_of_mem _ (List.mem_singleton.2 rfl)) q
 ·have e1:(t2.eff d (.arr id) [(id0,.gone),(id,.arr e es0 (rows++rows2) true)]).blk id=some (.arr e es0 (rows++rows2) true):=zR _ _ _
  refine(zaF id e1).trans (fun w0 nt β S a w hs=>⟨β,S,?_⟩)
  have e2:(t2.eff d (.arr id) [(id0,.gone),(id,.arr e es0 (rows++rows2) true)]).setB id (.arr e es0 (rows++rows2) false)=t2.eff d (.arr id) [(id0,.gone),(id,.arr e es0 (rows++rows2) false)]:=by
   simp only[AS.setB,AS.eff,AS.put,setBs,zty]
  rwa[e2]at hs
def zqT:AV→AV
 | .int k n=>.int k n
 | .bool b=>.bool b
 | .str s=>.str s
 |_=>.any
def zk7:AV→AV
 | .agg cs=>.agg (cs.map zqT)
 |x=>zqT x
def zqy:AV→AV
 | .tup vs=>.tup (vs.map zk7)
 |x=>zk7 x
theorem zm9{β β':Bt}{S S':St}{w w':World}{v:Value}{x:AV}(h:VR β S w v x):VR β' S' w' v (zqT x):=by
 cases h <;>first|exact .any _|exact .int _ _|exact .bool _|exact .str _
theorem zls(f:AV→AV)(l:List AV){j:Nat}(hj:j <l.length):(l.map f).getD j .any=f (l.getD j .any):=by
 simp[List.getD_eq_getElem?_getD,hj]
theorem zsd{β β':Bt}{S S':St}{w w':World}{v:Value}{x:AV}(h:VR β S w v x):VR β' S' w' v (zk7 x):=by
 by_cases e: ∃ cs,x=.agg cs
 ·obtain⟨cs,rfl⟩:=e
  cases h with
  |agg c _ h1 h3 h4=>
   exact .agg c _ (by simpa using h1) (fun j hj=>by rw[zls _ _ (by simpa using hj)];exact zm9 (h3 j (by simpa using hj))) (fun j hj=>h4 j (by simpa using hj))
 ·have:zk7 x=zqT x:=by cases x <;>first|rfl|exact absurd ⟨_,rfl⟩ e
  rw[this];exact zm9 h
theorem zn1{S' S2:St}{w w':World}{β2:Bt}{v:Value}{b:Nat}{x:AV}(h:RV1 S' w w' v b x):VR β2 S2 w' v (zk7 x):=by
 by_cases e: ∃ e es rows wr,x=.own e es rows wr
 ·obtain⟨e,es,rows,wr,rfl⟩:=e
  exact .any _
 ·have h':VR nb S' w' v x:=by cases x <;>first|exact h|exact absurd ⟨_,_,_,_,rfl⟩ e
  exact zsd h'
theorem zuf{S' S2:St}{w w':World}{β2:Bt}{v:Value}{x:AV}(h:RV S' w w' v x):VR β2 S2 w' v (zqy x):=by
 by_cases e: ∃ xs,x=.tup xs
 ·obtain⟨xs,rfl⟩:=e
  obtain⟨cs,bs,rfl,h1,h2,_⟩:=h
  exact .tup cs _ (by simpa using h1) (fun j hj=>by rw[zls _ _ (by simpa using hj)];exact zn1 (h2 j (by simpa using hj)))
 ·have h': ∃ b,RV1 S' w w' v b x:=by cases x <;>first|exact h|exact absurd ⟨_,rfl⟩ e
  have e2:zqy x=zk7 x:=by cases x <;>first|rfl|exact absurd ⟨_,rfl⟩ e
  obtain⟨b,h'⟩:=h'
  rw[e2];exact zn1 h'
theorem zua{s t:AS}(h:s.le t)(id:Nat)(k:AB):(s.setB id k).le (t.setB id k):=by
 refine⟨h.1,fun i k' q=>?_⟩
 by_cases e:i=id
 ·subst e
  rw[show(s.setB i k).blk i=some k from zR _ _ _]at q
  rw[show(t.setB i k).blk i=some k from zR _ _ _];exact q
 ·rw[show(s.setB id k).blk i=s.blk i from zJ _ _ e]at q
  rw[show(t.setB id k).blk i=t.blk i from zJ _ _ e];exact h.2 i k' q
end
end Go.Aw
namespace Go.Aw
open Go.RowKit
section
variable {P:Program} {ty:Ty} {w0:B0} {nt:Nat} {s s':AS} {ops:Array Oper} {l:List Oper} {K:AS→Prop} {d:Option Nat} {t:TypeId} {pos:String} {af:Array Edge} {g:Option (Nat×Bool)}
theorem zbo{f:Nat}{fi ca:Array Operand}{xi xa:List AV}(h1:za4 s fi.toList=some xi)(h2:za4 s ca.toList=some xa)(hd:zt nt d=true):
 MStep P w0 nt ⟨d,.makeFunc (.func f) fi ca,t,pos,af,g⟩ s (.fn (.func f) xi xa) []:=by
 intro t2 hle _
 refine zaE hd fun β S a w hs=>?_
 obtain⟨q1,q2⟩:=zc2 hs (zcD hle h1)
 obtain⟨r1,r2⟩:=zc2 hs (zcD hle h2)
 refine⟨.func (.func f) (fi.map a.eval) (ca.map a.eval),?_,.fn _ _ _ _ _ (by simpa using q1) (by simpa using r1) (fun j hj=>?_) (fun j hj=>?_)⟩
 ·simp[execOp,Instr.makeFunc]
 ·have:=q2 j hj
  rw[←zag,Array.toList_map];exact VR.up this
 ·have:=r2 j hj
  rw[←zag,Array.toList_map];exact VR.up this
theorem zk5{a b c:Array Value}{x y z:List AV}{β:Bt}{S:St}{w:World}(h1:a.size=x.length)(h2:b.size=y.length)(h3:c.size=z.length)
 (k1: ∀ j,j <x.length→VR β S w (a.getD j undef) (x.getD j .any)) (k2: ∀ j,j <y.length→VR β S w (b.getD j undef) (y.getD j .any)) (k3: ∀ j,j <z.length→VR β S w (c.getD j undef) (z.getD j .any)):
 (a++b++c).size=(x++y++z).length∧ ∀ j,j <(x++y++z).length→VR β S w ((a++b++c).getD j undef) ((x++y++z).getD j .any):=by
 refine⟨by simp[h1,h2,h3],fun j hj=>?_⟩
 simp only[List.length_append]at hj
 rw[Array.getD_eq_getD_getElem?,List.getD_eq_getElem?_getD]
 by_cases e1:j <x.length
 ·have:=k1 j e1
  rw[Array.getD_eq_getD_getElem?,List.getD_eq_getElem?_getD]at this
  rw[Array.getElem?_append_left (by simp;omega),Array.getElem?_append_left (by omega),List.getElem?_append_left (by simp;omega),List.getElem?_append_left e1]
  exact this
 ·by_cases e2:j <x.length+y.length
  ·have:=k2 (j-x.length) (by omega)
   rw[Array.getD_eq_getD_getElem?,List.getD_eq_getElem?_getD]at this
   rw[Array.getElem?_append_left (by simp;omega),Array.getElem?_append_right (by omega),List.getElem?_append_left (by simp;omega),List.getElem?_append_right (by omega),h1]
   exact this
  ·have:=k3 (j-(x.length+y.length)) (by omega)
   rw[Array.getD_eq_getD_getElem?,List.getD_eq_getElem?_getD]at this
   rw[Array.getElem?_append_right (by simp;omega),List.getElem?_append_right (by simp;omega)]
   simp only[Array.size_append,List.length_append,h1,h2]
   exact this
theorem zsW{f:Nat}{x:Operand}{ops:Array Operand}{ts:Array TypeId}{xi xa xs:List AV}{res y:AV}{blk':Bk}(id:Nat)(hx:evO s x=some (.fn (.func f) xi xa))(hcl:(xi.all zai&&xa.all zai)=true)
 (ha:za4 s ops.toList=some xs) (hc:FC P f (xi++xs++xa) res) (ht:thaw id s.blk res=some (y,blk')) (hd:zt nt d=true):
 OkOp P w0 nt ⟨d,.call {callee:=.value x,args:=ops,argTypes:=ts},t,pos,af,g⟩ s ((⟨s.env,blk'⟩:AS).put d y):=by
 intro β S a w next Q hs hn
 obtain⟨fn,hf,hbody,hname⟩:=hc.fn
 obtain⟨e1,e2⟩:=zc2 hs ha
 have hxv:=zah hs hx
 generalize ex:a.eval x=cx at hxv
 cases hxv
 rename_i fi ca h1 h3 h2 h4
 simp only[Bool.and_eq_true]at hcl
 have hr:(execOp a.eval ⟨d,.call {callee:=.value x,args:=ops,argTypes:=ts},t,pos,af,g⟩).run P w=.ok (.enter f (fi++ops.map a.eval++ca)) w:=by
  have hcf:(callFunc f (fi++ops.map a.eval++ca)).run P w=.ok (.enter f (fi++ops.map a.eval++ca)) w:=by
   unfold callFunc
   rw[Sem.run_bind,run_program,Result.andThen_ok]
   simp only[hf,hname,hbody,Bool.false_eq_true,if_false,Sem.run_pure]
  simp[execOp,resolve,ex,Deferred.ofValue,invoke,hcf, -Array.append_assoc]
 unfold Oper.wp
 rw[hr]
 simp only[Oper.upon]
 have hgs:w0.heap.size≤w.heap.size:=hs.hh.hbelow.size
 obtain⟨g1,g2⟩:=zk5 (S:=S) (w:=w) (β:=nb) (a:=fi) (b:=ops.map a.eval) (c:=ca) (x:=xi) (y:=xs) (z:=xa) h1 (by simpa using e1) h2
  (fun j hj=>zbp (za7 hcl.1 hj) (h3 j hj)) (fun j hj=>by
    have:=e2 j hj
    rw[←zag,Array.toList_map];exact this) (fun j hj=>zbp (za7 hcl.2 hj) (h4 j hj))
 refine(hc.pc w S _ hs.hh.hlt g1 g2).mono ?_
 rintro e w' ⟨v,S',rfl,hB,h1,h2,h3,hv⟩
 obtain⟨q1,q2⟩:=hs.hh.extS hB h1 h2 h3
 obtain⟨β',r1,r2,r3⟩:=zmv q1 hgs ht hv (fun b hb i bj kj p q l=>by
  obtain⟨bi,z1,z2,_⟩:=hs.hh.hblk i kj q
  rw[p]at z1
  obtain rfl:=Option.some.inj z1
  have:=z2.lt l
  omega)
 have hs2:SR w0 nt β' S' ⟨s.env,blk'⟩ a w':=⟨r1,fun u z q=>r3 (q2 (hs.henv u z q)),hs.hsize,hs.hdefers⟩
 exact hn _ _ _ _ (hs2.put hd r2)
theorem zct{f:Nat}{x:Operand}{as:Array Operand}{ts:Array TypeId}{xi xa xs:List AV}{res:AV}{e:Ef}(id:Nat)(hx:evO s x=some (.fn (.func f) xi xa))(hcl:(xi.all zai&&xa.all zai)=true)(ha:za4 s as.toList=some xs)
 (hc:FC P f (xi++xs++xa) res) (ht:zhh id res=some e) (hid:e.2.all (fun p=>(s.blk p.1).isNone)=true) (hd:zt nt d=true):
 MStep P w0 nt ⟨d,.call {callee:=.value x,args:=as,argTypes:=ts},t,pos,af,g⟩ s e.1 e.2:=by
 intro t2 hle hfr
 have hn: ∀ p∈e.2,t2.blk p.1=none:=fun p hp=>hfr p hp (by
  have:=List.all_eq_true.1 hid p hp
  cases q:s.blk p.1 with
  |none=>rfl
  |some k=>simp[q]at this)
 exact zsW id (zV hle hx) hcl (zcD hle ha) hc (zjq ht hn) hd
end
end Go.Aw
namespace Go.Aw
open Go.RowKit
section
variable {P:Program} {w0:B0} {nt:Nat} {s:AS} {d:Option Nat} {t:TypeId} {pos:String} {af:Array Edge} {g:Option (Nat×Bool)}
theorem zp8{f id0:Nat}{pin:Option BI}{cells cells':List AV}{as:Array Operand}{ts:Array TypeId}{xs:List AV}{res:AV}(hk:s.blk id0=some (.bx pin cells))(hcs:argSs s.blk cells=some cells')(ha:za4 (s.setB id0 (.rob cells')) as.toList=some xs)(hc:FC P f xs res)(hd:zt nt d=true):
 OkOp P w0 nt ⟨d,.call {callee:=.value (.func f),args:=as,argTypes:=ts},t,pos,af,g⟩ s (s.put d (zqy res)):=by
 intro β S a w next Q hs hn
 obtain⟨fn,hf,hbody,hname⟩:=hc.fn
 obtain⟨β1,S1,hs1⟩:=z6 id0 hk hcs w0 nt β S a w hs
 obtain⟨e1,e2⟩:=zc2 hs1 ha
 have hr:(execOp a.eval ⟨d,.call {callee:=.value (.func f),args:=as,argTypes:=ts},t,pos,af,g⟩).run P w=.ok (.enter f (as.map a.eval)) w:=by
  have hcf:(callFunc f (as.map a.eval)).run P w=.ok (.enter f (as.map a.eval)) w:=by
   unfold callFunc
   rw[Sem.run_bind,run_program,Result.andThen_ok]
   simp only[hf,hname,hbody,Bool.false_eq_true,if_false,Sem.run_pure]
  simp[execOp,resolve,Act.eval,Deferred.ofValue,invoke,hcf]
 unfold Oper.wp
 rw[hr]
 simp only[Oper.upon]
 refine(hc.pc w S1 (as.map a.eval) hs1.hh.hlt (by simpa using e1) (fun j hj=>by
  have:=e2 j hj
  rw[←zag,Array.toList_map];exact this)).mono ?_
 rintro e w' ⟨v,S',rfl,hB,h1,h2,h3,hv⟩
 obtain⟨q1,q2⟩:=hs.hh.extS (S':=S) hB (fun b o q=>q) (fun b o q _=>q) (fun b o q=>Nat.lt_of_lt_of_le (hs.hh.hlt b o q) hB.size)
 have hs2:SR w0 nt β S s a w':=⟨q1,fun u z q=>q2 (hs.henv u z q),hs.hsize,hs.hdefers⟩
 exact hn _ _ _ _ (hs2.put hd (zuf hv))
theorem zlg{f id0:Nat}{pin:Option BI}{cells cells':List AV}{as:Array Operand}{ts:Array TypeId}{xs:List AV}{res y:AV}(hk:s.blk id0=some (.bx pin cells))(hcs:argSs s.blk cells=some cells')(ha:za4 (s.setB id0 (.rob cells')) as.toList=some xs)(hc:FC P f xs res)
 (hy:zqy res=y) (hd:zt nt d=true):MStep P w0 nt ⟨d,.call {callee:=.value (.func f),args:=as,argTypes:=ts},t,pos,af,g⟩ s y []:=by
 subst hy
 exact fun t2 hle _=>zp8 (hle.2 _ _ hk) (zeH hle hcs) (zcD (zua hle _ _) ha) hc hd
def zfd(P:Program)(u:TypeId):Bool:=match P.underlying u with
 |some (.func ..)=>true
 |_=>false
theorem zqi{xt yt:TypeId}{x y:Operand}{v:AV}(hx:evO s x=some v)(hv:(match v with| .nilf| .fn _ _ _=>true|_=>false)=true)(hy:evO s y=some .nilf)(hu:zfd P xt=true)(hd:zt nt d=true):
 MStep P w0 nt ⟨d,.binOp .eql xt x y yt,t,pos,af,g⟩ s (.bool (match v with| .nilf=>true|_=>false)) []:=by
 intro t2 hle _
 refine zaE hd fun β S a w hs=>?_
 have h1:=zah hs (zV hle hx)
 have h2:=zah hs (zV hle hy)
 generalize e1:a.eval x=cx at h1
 generalize e2:a.eval y=cy at h2
 cases h2
 obtain⟨p1,p2,p3,hu'⟩: ∃ p1 p2 p3,P.underlying xt=some (.func p1 p2 p3):=by
  unfold zfd at hu
  split at hu
  ·rename_i h;exact⟨_,_,_,h⟩
  ·cases hu
 cases h1 <;>first
  |(cases hv;done)
  |skip
 ·have hg:(eqGuard .eql xt x y .nilFunc .nilFunc).run P w=.ok () w:=by
   unfold eqGuard
   simp
  have heq:(Op.equal xt .nilFunc .nilFunc).run P w=.ok true w:=by
   show(Op.equalIn (9999+1) xt .nilFunc .nilFunc).run P w=_
   rw[Op.equalIn]
   simp only[Sem.run_bind,run_underlying hu',Result.andThen_ok,Sem.run_pure]
  exact⟨.bool true,by simp[execOp,e1,e2,hg,binOp,heq],.bool _⟩
 ·rename_i f fi ca xi xa _ _ _ _
  have hg:(eqGuard .eql xt x y (.func f fi ca) .nilFunc).run P w=.ok () w:=by
   unfold eqGuard
   simp
  have heq:(Op.equal xt (.func f fi ca) .nilFunc).run P w=.ok false w:=by
   show(Op.equalIn (9999+1) xt (.func f fi ca) .nilFunc).run P w=_
   rw[Op.equalIn]
   simp only[Sem.run_bind,run_underlying hu',Result.andThen_ok,Sem.run_pure]
  exact⟨.bool false,by simp[execOp,e1,e2,hg,binOp,heq],.bool _⟩
end
end Go.Aw
namespace Go.Aw
open Go.RowKit
def lentB(B:BI):Bt:=upd nb 0 B
abbrev butL(w:World)(L:Nat):Nat→Prop:=fun k=>k <w.heap.size∧k≠L
def pinAB(p:Option BI):AB→AB
 | .bx _ c=>.bx p c
 | .ar _ e es rows wr=>.ar p e es rows wr
 | .mp _ n f=>.mp p n f
 |k=>k
def lendable:AB→Bool
 | .bx _ _=>true
 | .ar _ _ _ _ wr=>wr
 | .mp _ _ _=>true
 |_=>false
theorem zco{k:AB}(h:lendable k=true):k.live=true:=by cases k <;>first|rfl|cases h
theorem zdy{p:Option BI}{k:AB}:lendable (pinAB p k)=lendable k:=by cases k <;>rfl
theorem zcp{β:Bt}{S:St}{w:World}{bi:BI}{k:AB}(h:lendable k=true)(hb:BR β S w bi k): ∀ o,¬S bi.b o:=by
 cases k with
 |bx p c=>obtain⟨_,_,_,_,_,q,_⟩:=hb;exact q
 |ar p e es rows wr=>
  obtain⟨_,_,_,_,_,_,_,_,q,_⟩:=hb
  exact q h
 |mp p n f=>obtain⟨_,_,_,_,q,_⟩:=hb;exact q
 |_=>cases h
theorem BR.repin{β:Bt}{S:St}{w:World}{bi:BI}{p p':Option BI}{k:AB}(h:BR β S w bi (pinAB p k))(hp: ∀ B,p'=some B→bi=B):BR β S w bi (pinAB p' k):=by
 cases k with
 |bx q c=>obtain⟨cs,t,h1,h2,h3,h4,_⟩:=h;exact⟨cs,t,h1,h2,h3,h4,hp⟩
 |ar q e es rows wr=>obtain⟨h1,h2,cs,h3,h4,h5,h6,h7,h8,h9,_⟩:=h;exact⟨h1,h2,cs,h3,h4,h5,h6,h7,h8,h9,hp⟩
 |mp q n f=>obtain⟨es,cl,h1,h2,h3,_⟩:=h;exact⟨es,cl,h1,h2,h3,hp⟩
 |_=>exact h
def zcE:AB→Option BI
 | .bx p _=>p
 | .ar p _ _ _ _=>p
 | .mp p _ _=>p
 |_=>none
theorem BR.pinned{β:Bt}{S:St}{w:World}{bi:BI}{k:AB}(h:BR β S w bi k): ∀ B,zcE k=some B→bi=B:=by
 cases k with
 |bx q c=>obtain⟨cs,t,h1,h2,h3,h4,h5⟩:=h;exact h5
 |ar q e es rows wr=>obtain⟨h1,h2,cs,h3,h4,h5,h6,h7,h8,h9,h10⟩:=h;exact h10
 |mp q n f=>obtain⟨es,cl,h1,h2,h3,h4⟩:=h;exact h4
 |_=>intro B q;cases q
theorem BR.upN{β:Bt}{S:St}{w:World}{bi:BI}{k:AB}(h:BR nb S w bi k):BR β S w bi k:=
 h.ext (fun _ _ q=>by cases q) (fun b o q=>⟨q,rfl⟩) (fun _=>rfl) (fun _ _ q=>q)
def zbQ(blk:Bk):AB→Option AB
 | .bx _ c=>match argSs blk c with
   |some c'=>some (.bx none c')
   |none=>none
 | .ar _ e es rows true=>some (.ar none e es rows true)
 | .mp _ n f=>some (.mp none n f)
 |_=>none
theorem zda{blk:Bk}{k k':AB}(h:zbQ blk k=some k'):lendable k=true∧lendable k'=true:=by
 cases k with
 |bx p c=>
  simp only[zbQ]at h
  split at h
  ·obtain rfl:=Option.some.inj h;exact⟨rfl,rfl⟩
  ·cases h
 |ar p e es rows wr=>
  cases wr with
  |true=>obtain rfl:=Option.some.inj h;exact⟨rfl,rfl⟩
  |false=>cases h
 |mp p n f=>obtain rfl:=Option.some.inj h;exact⟨rfl,rfl⟩
 |_=>cases h
theorem zhl{w0:B0}{w:World}{β:Bt}{S:St}{blk:Bk}(h:HR w0 β S blk w){bi:BI}{k k':AB}(hb:BR β S w bi k)(ha:zbQ blk k=some k'):BR nb S w bi (pinAB (zcE k) k'):=by
 cases k with
 |bx p c=>
  simp only[zbQ]at ha
  split at ha
  ·rename_i c' hc
   obtain rfl:=Option.some.inj ha
   obtain⟨cs,t,h1,h2,h3,h4,h5⟩:=hb
   obtain⟨q1,q2⟩:=zhd h (cv:=fun j=>cs.getD (0+j) undef) hc (fun j hj=>(h3 j hj).1)
   exact⟨cs,t,h1,by omega,fun j hj=>⟨q2 j hj,(h3 j (by omega)).2⟩,h4,h5⟩
  ·cases ha
 |ar p e es rows wr=>
  cases wr with
  |true=>obtain rfl:=Option.some.inj ha;exact hb
  |false=>cases ha
 |mp p n f=>obtain rfl:=Option.some.inj ha;exact hb
 |_=>cases ha
theorem zhI{s t':AS}(h:s.le t'){k k':AB}(hb:zbQ s.blk k=some k'):zbQ t'.blk k=some k':=by
 cases k with
 |bx p c=>
  simp only[zbQ]at hb⊢
  split at hb
  ·rename_i c' hc;rw[zeH h hc];exact hb
  ·cases hb
 |ar p e es rows wr=>cases wr <;>exact hb
 |_=>exact hb
theorem zAV{p:Option BI}{k:AB}:(pinAB p k).live=k.live:=by cases k <;>rfl
theorem WkB.pin{p:Option BI}{x y:AB}(h:WkB x y):WkB (pinAB p x) (pinAB p y):=by
 cases h with
 |refl=>exact .refl _
 |box h=>exact .box h
 |arr h=>exact .arr h
structure MC (P:Program) (f:Nat) (args:List AV) (k:AB) (res:AV) (k2:AB):Prop where
 lend:lendable k2=true
 pc: ∀ (w:World) (S0:St) (ca:Array Value) (B:BI),(∀ b o,S0 b o→b <w.heap.size)→ca.size=args.length→(∀ j,j <args.length→VR (lentB B) S0 w (ca.getD j undef) (args.getD j .any))→BR nb S0 w B (pinAB (some B) k)→
  Calls P f ca w fun e w'=> ∃ v S',e=.returned v∧BelowP (butL w B.b) w w'∧(∀ b o,S0 b o→S' b o)∧(∀ b o,S' b o→b <w.heap.size→S0 b o)∧(∀ b o,S' b o→b <w'.heap.size)∧
   BR nb S' w' B (pinAB (some B) k2)∧VR nb S' w' v res
 fn: ∃ fn,P.funcs[f]? =some fn∧fn.body.isNone=false∧(fn.name=="runtime.NumGoroutine")=false
theorem HR.lent{w0:B0}{w w':World}{β:Bt}{S S':St}{blk:Bk}(h:HR w0 β S blk w){id:Nat}{k k':AB}{bi:BI}(hk:blk id=some k)(hl:k.live=true)(hbi:β id=some bi)
 (hS: ∀ o,¬S bi.b o) (hB:BelowP (butL w bi.b) w w') (h1: ∀ b o,S b o→S' b o) (h2: ∀ b o,S' b o→b <w.heap.size→S b o) (h3: ∀ b o,S' b o→b <w'.heap.size) (hnew:BR β S' w' bi k'):
 HR w0 β S' (upd blk id k') w'∧ ∀ {v x},VR β S w v x→VR β S' w' v x:=by
 have hSm: ∀ b o,S b o→S' b o∧w'.cell? ⟨b,o,none⟩=w.cell? ⟨b,o,none⟩:=fun b o q=>⟨h1 b o q,World.cell?_of_block (hB.block b ⟨h.hlt b o q,fun e=>hS o (e▸q)⟩)⟩
 have hv: ∀ {v x},VR β S w v x→VR β S' w' v x:=fun q=>q.mono (fun _ _ q=>q) hSm
 have hgs:w0.w.heap.size≤w.heap.size:=h.hbelow.size
 obtain⟨bi2,e1,_,hge⟩:=h.hblk id k hk
 rw[hbi]at e1
 obtain rfl:=Option.some.inj e1
 refine⟨⟨?_,?_,?_,fun b o q=>h1 b o (h.hold b o q),fun b o q hlo=>h.hnew b o (h2 b o q (by have:=w0.hlt0 b hlo;omega)) hlo,h3,?_⟩,hv⟩
 ·intro i kk q
  by_cases e:i=id
  ·subst e
   have:some k'=some kk:=(zR blk i k').symm.trans q
   obtain rfl:=Option.some.inj this
   exact⟨bi,hbi,hnew,fun _=>hge hl⟩
  ·rw[zJ blk k' e]at q
   obtain⟨b2,g1,g2,g3⟩:=h.hblk i kk q
   exact⟨b2,g1,g2.ext (fun _ _ q=>q) hSm (fun hl2=>hB.block _ ⟨g2.lt hl2,fun eb=>h.hinj i id b2 bi kk k e q hl2 hk hl g1 hbi eb⟩) (fun hl2 o q=>h2 _ o q (g2.lt hl2)),g3⟩
 ·intro i b q
  by_cases e:i=id
  ·subst e;exact⟨k',zR blk i k'⟩
  ·obtain⟨k2,hk2⟩:=h.hdom i b q
   exact⟨k2,by rw[zJ blk k' e];exact hk2⟩
 ·intro i j b1 b2 k1 k2 hne q1 l1 q2 l2 p1 p2
  by_cases ei:i=id
  ·subst ei
   rw[zJ blk k' (fun e=>hne e.symm)]at q2
   exact h.hinj i j b1 b2 k k2 hne hk hl q2 l2 p1 p2
  ·rw[zJ blk k' ei]at q1
   by_cases ej:j=id
   ·subst ej
    exact h.hinj i j b1 b2 k1 k hne q1 l1 hk hl p1 p2
   ·rw[zJ blk k' ej]at q2
    exact h.hinj i j b1 b2 k1 k2 hne q1 l1 q2 l2 p1 p2
 ·refine h.hbelow.trans ⟨hB.os,hB.tape,hB.output,hB.size,fun b hb=>hB.block b ⟨by have:=w0.hlt0 b hb;omega,fun e=>hge hl (e▸hb)⟩⟩
def zqg(id0:Nat):AV→Option AV
 | .ptr id off=>match Nat.beq id id0 with
   |true=>some (.ptr 0 off)
   |false=>none
 |x=>match zai x with
  |true=>some x
  |false=>none
def ze4(id0:Nat):List AV→Option (List AV)
 |[]=>some []
 |x::l=>match zqg id0 x,ze4 id0 l with
  |some y,some r=>some (y::r)
  |_,_=>none
theorem zsx{β:Bt}{S:St}{w:World}{id0:Nat}{bi:BI}(hbi:β id0=some bi){v:Value}{x y:AV}(hv:VR β S w v x)(ha:zqg id0 x=some y):VR (lentB bi) S w v y:=by
 by_cases e: ∃ id off,x=.ptr id off
 ·obtain⟨id,off,rfl⟩:=e
  simp only[zqg]at ha
  split at ha
  ·rename_i q
   obtain rfl:=Nat.eq_of_beq_eq_true q
   obtain rfl:=Option.some.inj ha
   cases hv with
   |ptr _ _ b2 hb=>
    rw[hbi]at hb
    obtain rfl:=Option.some.inj hb
    exact .ptr 0 off bi (zR _ _ _)
  ·cases ha
 ·have:zai x=true∧x=y:=by
   cases x <;>simp only[zqg]at ha <;>first
    |exact absurd ⟨_,_,rfl⟩ e
    |(split at ha
      ·exact⟨by assumption,Option.some.inj ha⟩
      ·cases ha)
  obtain⟨h1,rfl⟩:=this
  exact VR.up (zbp h1 hv)
theorem zex{β:Bt}{S:St}{w:World}{id0:Nat}{bi:BI}(hbi:β id0=some bi): ∀ {xs ys:List AV} {cv:Nat→Value},ze4 id0 xs=some ys→(∀ j,j <xs.length→VR β S w (cv j) (xs.getD j .any))→
 ys.length=xs.length∧ ∀ j,j <ys.length→VR (lentB bi) S w (cv j) (ys.getD j .any)
 |[],ys,cv,h,_=>by obtain rfl:=Option.some.inj h;exact⟨rfl,fun j hj=>by simp at hj⟩
 |x::l,ys,cv,h,hv=>by
  simp only[ze4]at h
  split at h
  ·rename_i y r e1 e2
   obtain rfl:=Option.some.inj h
   obtain⟨q1,q2⟩:=zex hbi (cv:=fun j=>cv (j+1)) e2 (fun j hj=>by simpa using hv (j+1) (by simpa using hj))
   refine⟨by simp[q1],fun j hj=>?_⟩
   cases j with
   |zero=>simpa using zsx hbi (by simpa using hv 0 (by simp)) e1
   |succ j=>simpa using q2 j (by simpa using hj)
  ·cases h
def zhR(blk:Bk)(id0:Nat):AV→Option AV
 | .fn f a b=>match ze4 id0 a,ze4 id0 b with
   |some a',some b'=>some (.fn f a' b')
   |_,_=>none
 | .ptr id off=>match Nat.beq id id0 with
   |true=>some (.ptr 0 off)
   |false=>argV blk (.ptr id off)
 | .arr id=>match Nat.beq id id0 with
   |true=>some (.arr 0)
   |false=>argV blk (.arr id)
 | .mp id=>match Nat.beq id id0 with
   |true=>some (.mp 0)
   |false=>argV blk (.mp id)
 |x=>argV blk x
def zcs(s:AS)(id0:Nat):List Operand→Option (List AV)
 |[]=>some []
 |x::l=>match evO s x with
  |some v=>match zhR s.blk id0 v,zcs s id0 l with
   |some y,some r=>some (y::r)
   |_,_=>none
  |none=>none
theorem zub{w0:B0}{w:World}{β:Bt}{S:St}{blk:Bk}(h:HR w0 β S blk w){id0:Nat}{bi:BI}(hbi:β id0=some bi){v:Value}{x y:AV}(hv:VR β S w v x)(ha:zhR blk id0 x=some y):VR (lentB bi) S w v y:=by
 by_cases ef: ∃ f a b,x=.fn f a b
 ·obtain⟨f,a,b,rfl⟩:=ef
  simp only[zhR]at ha
  split at ha
  ·rename_i a' b' e1 e2
   obtain rfl:=Option.some.inj ha
   cases hv with
   |fn _ fi ca _ _ h1 h2 h3 h4=>
    obtain⟨q1,q2⟩:=zex hbi (cv:=fun j=>fi.getD j undef) e1 h3
    obtain⟨q3,q4⟩:=zex hbi (cv:=fun j=>ca.getD j undef) e2 h4
    exact .fn f fi ca a' b' (by omega) (by omega) q2 q4
  ·cases ha
 by_cases e:(∃ off,x=.ptr id0 off)∨x=.arr id0∨x=.mp id0
 ·rcases e with⟨off,rfl⟩|rfl|rfl
  ·simp only[zhR,Nat.beq_refl]at ha
   obtain rfl:=Option.some.inj ha
   cases hv with
   |ptr _ _ b2 hb=>
    rw[hbi]at hb
    obtain rfl:=Option.some.inj hb
    exact .ptr 0 off bi (zR _ _ _)
  ·simp only[zhR,Nat.beq_refl]at ha
   obtain rfl:=Option.some.inj ha
   cases hv with
   |arr _ b2 hb=>
    rw[hbi]at hb
    obtain rfl:=Option.some.inj hb
    exact .arr 0 bi (zR _ _ _)
  ·simp only[zhR,Nat.beq_refl]at ha
   obtain rfl:=Option.some.inj ha
   cases hv with
   |mp _ b2 hb=>
    rw[hbi]at hb
    obtain rfl:=Option.some.inj hb
    exact .mp 0 bi (zR _ _ _)
 ·have ha':argV blk x=some y:=by
   cases x <;>try exact ha
   ·exact absurd ⟨_,_,_,rfl⟩ ef
   ·rename_i id off
    simp only[zhR]at ha
    split at ha
    ·rename_i q;exact absurd (.inl ⟨off,by rw[Nat.eq_of_beq_eq_true q]⟩) e
    ·exact ha
   ·rename_i id
    simp only[zhR]at ha
    split at ha
    ·rename_i q;exact absurd (.inr (.inl (by rw[Nat.eq_of_beq_eq_true q]))) e
    ·exact ha
   ·rename_i id
    simp only[zhR]at ha
    split at ha
    ·rename_i q;exact absurd (.inr (.inr (by rw[Nat.eq_of_beq_eq_true q]))) e
    ·exact ha
  exact VR.up (zcb h hv ha')
theorem zeS{w0:B0}{nt:Nat}{s:AS}{w:World}{β:Bt}{S:St}{a:Act}(hs:SR w0 nt β S s a w){id0:Nat}{bi:BI}(hbi:β id0=some bi): ∀ {l:List Operand} {xs:List AV},zcs s id0 l=some xs→l.length=xs.length∧
 ∀ j,j <xs.length→VR (lentB bi) S w ((l.map a.eval).getD j undef) (xs.getD j .any)
 |[],xs,h=>by obtain rfl:=Option.some.inj h;exact⟨rfl,fun j hj=>by simp at hj⟩
 |x::l,xs,h=>by
  simp only[zcs]at h
  split at h
  ·rename_i v hv
   split at h
   ·rename_i y r e1 e2
    obtain rfl:=Option.some.inj h
    obtain⟨q1,q2⟩:=zeS hs hbi e2
    refine⟨by simp[q1],fun j hj=>?_⟩
    cases j with
    |zero=>simpa using zub hs.hh hbi (zah hs hv) e1
    |succ j=>simpa using q2 j (by simpa using hj)
   ·cases h
  ·cases h
theorem zrR{s t':AS}(h:s.le t'){id0:Nat}{p q:AV}(hb:zhR s.blk id0 p=some q):zhR t'.blk id0 p=some q:=by
 by_cases ef: ∃ f a b,p=.fn f a b
 ·obtain⟨f,a,b,rfl⟩:=ef;exact hb
 by_cases e:(∃ id off,p=.ptr id off)∨(∃ id,p=.arr id)∨ ∃ id,p=.mp id
 ·rcases e with⟨id,off,rfl⟩|⟨id,rfl⟩|⟨id,rfl⟩
  all_goals
   simp only[zhR]at hb⊢
   split at hb
   ·exact hb
   ·exact zeC h hb
 ·have e1: ∀ b,zhR b id0 p=argV b p:=fun b=>by cases p <;>first|rfl|exact absurd ⟨_,_,_,rfl⟩ ef|exact absurd (.inl ⟨_,_,rfl⟩) e|exact absurd (.inr (.inl ⟨_,rfl⟩)) e|exact absurd (.inr (.inr ⟨_,rfl⟩)) e
  rw[e1]at hb⊢;exact zeC h hb
theorem zdB{s t':AS}(h:s.le t'){id0:Nat}: ∀ {l:List Operand} {xs:List AV},zcs s id0 l=some xs→zcs t' id0 l=some xs
 |[],xs,hb=>hb
 |x::l,xs,hb=>by
  simp only[zcs]at hb⊢
  split at hb
  ·rename_i v hv
   rw[zV h hv]
   simp only
   split at hb
   ·rename_i y r e1 e2
    rw[zrR h e1,zdB h e2];exact hb
   ·cases hb
  ·cases hb
theorem MC.weak{P:Program}{f:Nat}{xs ys:List AV}{k l:AB}{res:AV}{k2:AB}(h:MC P f ys l res k2)(hw:Wks xs ys)(hc:WkB k l):MC P f xs k res k2:=by
 refine⟨h.lend,fun w S0 ca B h1 h2 h3 h4=>?_,h.fn⟩
 obtain⟨q1,q2⟩:=hw.ok (cv:=fun j=>ca.getD j undef) h3
 exact h.pc w S0 ca B h1 (by omega) q2 (hc.pin.ok h4)
section
variable {P:Program} {ty:Ty} {w0:B0} {nt:Nat} {s:AS} {d:Option Nat} {t:TypeId} {pos:String} {af:Array Edge} {g:Option (Nat×Bool)}
theorem zs6{f id0:Nat}{k k1 k2:AB}{as:Array Operand}{ts:Array TypeId}{xs:List AV}{res:AV}(hk:s.blk id0=some k)(hcs:zbQ s.blk k=some k1)
 (ha:zcs s id0 as.toList=some xs) (hc:MC P f xs k1 res k2) (hd:zt nt d=true):
 OkOp P w0 nt ⟨d,.call {callee:=.value (.func f),args:=as,argTypes:=ts},t,pos,af,g⟩ s ((s.setB id0 (pinAB (zcE k) k2)).put d res):=by
 intro β S a w next Q hs hn
 obtain⟨fn,hf,hbody,hname⟩:=hc.fn
 obtain⟨bi,hbi,hbr,hold⟩:=hs.hh.hblk id0 _ hk
 obtain⟨l1,l2⟩:=zda hcs
 obtain⟨e1,e2⟩:=zeS hs hbi ha
 have hr:(execOp a.eval ⟨d,.call {callee:=.value (.func f),args:=as,argTypes:=ts},t,pos,af,g⟩).run P w=.ok (.enter f (as.map a.eval)) w:=by
  have hcf:(callFunc f (as.map a.eval)).run P w=.ok (.enter f (as.map a.eval)) w:=by
   unfold callFunc
   rw[Sem.run_bind,run_program,Result.andThen_ok]
   simp only[hf,hname,hbody,Bool.false_eq_true,if_false,Sem.run_pure]
  simp[execOp,resolve,Act.eval,Deferred.ofValue,invoke,hcf]
 unfold Oper.wp
 rw[hr]
 simp only[Oper.upon]
 refine(hc.pc w S (as.map a.eval) bi hs.hh.hlt (by simpa using e1) (fun j hj=>by
  have:=e2 j hj
  rw[←zag,Array.toList_map];exact this) ((zhl hs.hh hbr hcs).repin (fun B q=>Option.some.inj q))).mono ?_
 rintro e w' ⟨v,S',rfl,hB,h1,h2,h3,hb2,hv⟩
 obtain⟨r1,r2⟩:=hs.hh.lent (k':=pinAB (zcE k) k2) hk (zco l1) hbi (zcp l1 hbr) hB h1 h2 h3 (hb2.repin hbr.pinned).upN
 have hs2:SR w0 nt β S' (s.setB id0 (pinAB (zcE k) k2)) a w':=⟨r1,fun u z q=>r2 (hs.henv u z q),hs.hsize,hs.hdefers⟩
 exact hn _ _ _ _ (hs2.put hd (VR.up hv))
theorem zcd{f:Nat}{k k1 k2 k3:AB}{as:Array Operand}{ts:Array TypeId}{xs:List AV}{res:AV}(id0:Nat)(hk:s.blk id0=some k)(hcs:zbQ s.blk k=some k1)
 (ha:zcs s id0 as.toList=some xs) (hc:MC P f xs k1 res k2) (h3:pinAB (zcE k) k2=k3) (hd:zt nt d=true):
 MStep P w0 nt ⟨d,.call {callee:=.value (.func f),args:=as,argTypes:=ts},t,pos,af,g⟩ s res [(id0,k3)]:=by
 subst h3
 exact fun _ hle _=>zs6 (hle.2 _ _ hk) (zhI hle hcs) (zdB hle ha) hc hd
theorem zso{w:World}{β:Bt}{S:St}{blk:Bk}(h:HR w0 β S blk w){vs:List AV}{us:List Value}{res0 res:AV}(hl:us.length=vs.length)(hv: ∀ j,j <vs.length→VR β S w (us.getD j undef) (vs.getD j .any))
 (hp:packL blk vs=some res0) (hw:Wk res0 res):VR nb S w (if h:us.toArray.size=1 then us.toArray[0]else .tuple us.toArray) res:=by
 have multi:(∀ x,vs≠[x])→VR nb S w (.tuple us.toArray) res:=by
  intro hne
  have hp': ∃ ys,argVs blk vs=some ys∧res0=.tup ys:=by
   match vs,hp,hne with
   |[],hp,_=>exact⟨[],rfl,(Option.some.inj hp).symm⟩
   |[x],_,hne=>exact absurd rfl (hne x)
   |x::y::l,hp,_=>
    simp only[packL]at hp
    obtain⟨ys,h1,h2⟩:=Option.map_eq_some_iff.1 hp
    exact⟨ys,h1,h2.symm⟩
  obtain⟨ys,h1,rfl⟩:=hp'
  obtain⟨q1,q2⟩:=ziU h (cv:=fun j=>us.getD j undef) h1 hv
  exact hw.ok (.tup us.toArray ys (by simp[hl,q1]) (fun j hj=>by have:=q2 j hj;rw[←zag,List.toList_toArray];exact this))
 by_cases hone: ∃ x,vs=[x]
 ·obtain⟨x,rfl⟩:=hone
  match us,hl with
  |[u],_=>
   have hu:VR β S w u x:=by simpa using hv 0 (by simp)
   simpa using hw.ok (zcb h hu (show argV blk x=some res0 from hp))
 ·have hne: ¬us.toArray.size=1:=by
   intro e
   have hlen:vs.length=1:=by rw[←hl];simpa using e
   obtain⟨x,hx⟩:=List.length_eq_one_iff.1 hlen
   exact hone ⟨x,hx⟩
  rw[dif_neg hne]
  exact multi (fun x e=>hone ⟨x,e⟩)
def zlk(ty:Ty)(rs:List ResultVar)(res:AV)(B:BI)(k2:AB)(e:Exit)(s':AS):Prop:=
 (e=.ret∨e=.normal)∧ ∃ s2,Less s' s2∧(∃ id k k1,s2.blk id=some k∧zcE k=some B∧zbQ s2.blk k=some k1∧WkB k1 k2)∧ ∃ vs,resL ty s2 rs=some vs∧ ∃ x,packL s2.blk vs=some x∧Wk x res
theorem zdL{s':AS}{rs:List ResultVar}{vs:List AV}{x res:AV}{B:BI}(id:Nat){k k1 k2:AB}(hk:s'.blk id=some k)(hp1:zcE k=some B)(ha:zbQ s'.blk k=some k1)(h:resL ty s' rs=some vs)(hp:packL s'.blk vs=some x)(hx:x=res)(hc:WkB k1 k2):
 zlk ty rs res B k2 .ret s':=⟨.inl rfl,_,.refl _,⟨id,k,k1,hk,hp1,ha,hc⟩,vs,h,x,hp,by rw[hx];exact .refl _⟩
theorem zh1{s':AS}{rs:List ResultVar}{vs:List AV}{x res:AV}{B:BI}(id:Nat){k k1 k2:AB}(hk:s'.blk id=some k)(hp1:zcE k=some B)(ha:zbQ s'.blk k=some k1)(h:resL ty s' rs=some vs)(hp:packL s'.blk vs=some x)(hx:x=res)(hc:WkB k1 k2):
 zlk ty rs res B k2 .normal s':=⟨.inr rfl,_,.refl _,⟨id,k,k1,hk,hp1,ha,hc⟩,vs,h,x,hp,by rw[hx];exact .refl _⟩
theorem zpL{s':AS}{rs:List ResultVar}{res:AV}{B:BI}{k2:AB}{s2:AS}{e:Exit}(h:Less s' s2)(k:zlk ty rs res B k2 e s2):zlk ty rs res B k2 e s':=⟨k.1,k.2.choose,h.trans k.2.choose_spec.1,k.2.choose_spec.2⟩
theorem zcK(hty:TyOK P ty){f:Nat}{fn:Func}{c:Code}{args:List AV}{k:AB}{res:AV}{k2:AB}(hf:P.funcs[f]? =some fn)(hb:fn.body=some c)(hname:(fn.name=="runtime.NumGoroutine")=false)(hn:Nat.ble args.length fn.ntmps=true)
 (hl:lendable k=true) (hl2:lendable k2=true) (h: ∀ (w0:B0) (B:BI),AC P w0 fn.ntmps c ⟨fun t=>args[t]?,bkOf [(0,pinAB (some B) k)]⟩ (zlk ty fn.results.toList res B k2)):MC P f args k res k2:=by
 refine⟨hl2,?_,fn,hf,by rw[hb];rfl,hname⟩
 intro w S0 ca B hS hsz hca hbox
 have hn:=Nat.le_of_ble_eq_true hn
 have hl':lendable (pinAB (some B) k)=true:=by rw[zdy];exact hl
 have hb0: ∀ {id k'},bkOf [(0,pinAB (some B) k)] id=some k'→id=0∧k'=pinAB (some B) k:=by
  intro id k q
  unfold bkOf at q
  split at q
  ·rename_i e;exact⟨Nat.eq_of_beq_eq_true e,(Option.some.inj q).symm⟩
  ·cases q
 have hβ0: ∀ {id bi},lentB B id=some bi→id=0∧bi=B:=by
  intro id bi q
  by_cases e:id=0
  ·subst e
   have:some B=some bi:=(zR nb 0 _).symm.trans q
   exact⟨rfl,(Option.some.inj this).symm⟩
  ·have:nb id=some bi:=(zJ nb _ e).symm.trans q
   cases this
 refine calls_of_wp hf hb (h ⟨w,S0,butL w B.b,fun _ h=>h.1⟩ B (lentB B) S0 _ _ _ ⟨⟨?_,?_,?_,fun b o q=>q,fun b o q _=>q,hS,BelowP.refl _ _⟩,?_,?_,rfl⟩ ?_)
 ·intro id k q
  obtain⟨rfl,rfl⟩:=hb0 q
  exact⟨_,zR _ _ _,hbox.upN,fun _ ho=>ho.2 rfl⟩
 ·intro id bi q
  obtain⟨rfl,_⟩:=hβ0 q
  exact⟨_,rfl⟩
 ·intro i j bi bj ki kj hne q1 _ q2
  exact absurd ((hb0 q1).1.trans (hb0 q2).1.symm) hne
 ·intro t x hx
  have hlt:t <args.length:=(List.getElem?_eq_some_iff.1 hx).1
  have:=hca t hlt
  have hx':args[t]? =some x:=hx
  have e1:args.getD t .any=x:=by rw[List.getD_eq_getElem?_getD,hx'];rfl
  have e2:(ca++Array.replicate (fn.ntmps-ca.size) undef).getD t undef=ca.getD t undef:=by
   simp only[Array.getD_eq_getD_getElem?]
   rw[Array.getElem?_append_left (by omega)]
  rw[e1]at this
  simp only[e2]
  exact this
 ·simp only[Array.size_append,Array.size_replicate];omega
 ·intro e β' S' a' w' s' hk hs'
  obtain⟨he,s2,hl2',⟨id,kk,k1,hk1,hpin,hk2,hk3⟩,vs,h1,x,h2,h6⟩:=hk
  obtain⟨β',S',hs'⟩:=hl2' _ _ _ _ _ _ hs'
  obtain⟨us,h3,h4,h5⟩:=zhn hty hs' h1
  have hres:(results fn a'.tmps).run P w'=.ok (if h:us.toArray.size=1 then us.toArray[0]else .tuple us.toArray) w':=by
   rw[zeT,Array.mapM_eq_mapM_toList]
   simp only[Sem.run_bind,Sem.run_map,h3,Result.andThen_ok,Sem.run_pure]
  have hbr:BR nb S' w' B (pinAB (some B) k2):=by
   obtain⟨bi,g1,g2,_⟩:=hs'.hh.hblk id _ hk1
   obtain rfl:=g2.pinned _ hpin
   have:=zhl hs'.hh g2 hk2
   rw[hpin]at this
   exact hk3.pin.ok this
  have hfree:=zcp (by rw[zdy];exact hl2) hbr
  have hpost:a'.defers=[]∧ ∃ v,(results fn a'.tmps).run P w'=.ok v w'∧ ∃ v2 S2,Ending.returned v=Ending.returned v2∧BelowP (butL w B.b) w w'∧(∀ b o,S0 b o→S2 b o)∧(∀ b o,S2 b o→b <w.heap.size→S0 b o)∧(∀ b o,S2 b o→b <w'.heap.size)∧
   BR nb S2 w' B (pinAB (some B) k2)∧VR nb S2 w' v2 res:=
   ⟨hs'.hdefers,_,hres,_,S',rfl,hs'.hh.hbelow,hs'.hh.hold,fun b o q hlt=>hs'.hh.hnew b o q ⟨hlt,fun e=>by subst e;exact hfree o q⟩,hs'.hh.hlt,hbr,zso hs'.hh h4 h5 h2 h6⟩
  rcases he with rfl|rfl
  ·exact hpost
  ·exact hpost
theorem zcT{ops:Array Oper}{l:List Oper}{K:AS→Prop}{f:Nat}{x:Operand}{as:Array Operand}{ts:Array TypeId}{xi xa xs:List AV}{b:Bool}(hx:evO s x=some (.fn (.func f) xi xa))(hcl:(xi.all zai&&xa.all zai)=true)(ha:za4 s as.toList=some xs)
 (hc:FC P f (xi++xs++xa) (.bool b)) (hd:zt nt d=true)
 (h1:b=true→WL P w0 nt ops l (s.put d (.bool true)) K) (h2:b=false→WL P w0 nt ops l (s.put d (.bool false)) K):WL P w0 nt ops (⟨d,.call {callee:=.value x,args:=as,argTypes:=ts},t,pos,af,none⟩::l) s K:=by
 refine WL_m rfl (zct 0 hx hcl ha hc rfl rfl hd) ?_
 cases b
 ·exact h2 rfl
 ·exact h1 rfl
theorem zmC(hty:TyOK P ty){u:Nat}{ui:TI}{x:Operand}{id i off e es:Nat}{pin:Option BI}{wr:Bool}{rows:List (List AV)}{row cs:List AV}(hi:ty u=some ui)(ha:ui.desc.isAgg=true)(hx:evO s x=some (.aptr id i off))(hk:s.blk id=some (.ar pin e es rows wr))(hr:rows[i]? =some row)
 (hl:Nat.beq ((row.drop off).take ui.size).length ui.size=true) (hf:zcM ((row.drop off).take ui.size)=some cs) (hd:zt nt d=true):MStep P w0 nt ⟨d,.load u x,t,pos,af,g⟩ s (.agg cs) []:=by
 intro t2 hle _
 obtain rfl:=zcS hf
 have hb:behind s.blk ui.size (.aptr id i off)=some ((row.drop off).take ui.size):=by simp only[behind,hk,hr,Option.map_some]
 exact zoj hty hi ha (zV hle hx) (zfz hle hb) hl hd
theorem zqN{xt yt:TypeId}{x y:Operand}{v:AV}(hx:evO s x=some v)(hv:(match v with| .nilf| .fn _ _ _=>true|_=>false)=true)(hy:evO s y=some .nilf)(hu:zfd P xt=true)(hd:zt nt d=true):
 MStep P w0 nt ⟨d,.binOp .neq xt x y yt,t,pos,af,g⟩ s (.bool (match v with| .nilf=>false|_=>true)) []:=by
 intro t2 hle _
 refine zaE hd fun β S a w hs=>?_
 have h1:=zah hs (zV hle hx)
 have h2:=zah hs (zV hle hy)
 generalize e1:a.eval x=cx at h1
 generalize e2:a.eval y=cy at h2
 cases h2
 obtain⟨p1,p2,p3,hu'⟩: ∃ p1 p2 p3,P.underlying xt=some (.func p1 p2 p3):=by
  unfold zfd at hu
  split at hu
  ·rename_i h;exact⟨_,_,_,h⟩
  ·cases hu
 cases h1 <;>first
  |(cases hv;done)
  |skip
 ·have hg:(eqGuard .neq xt x y .nilFunc .nilFunc).run P w=.ok () w:=by
   unfold eqGuard
   simp
  have heq:(Op.equal xt .nilFunc .nilFunc).run P w=.ok true w:=by
   show(Op.equalIn (9999+1) xt .nilFunc .nilFunc).run P w=_
   rw[Op.equalIn]
   simp only[Sem.run_bind,run_underlying hu',Result.andThen_ok,Sem.run_pure]
  exact⟨.bool false,by simp[execOp,e1,e2,hg,binOp,heq],.bool _⟩
 ·rename_i f fi ca xi xa _ _ _ _
  have hg:(eqGuard .neq xt x y (.func f fi ca) .nilFunc).run P w=.ok () w:=by
   unfold eqGuard
   simp
  have heq:(Op.equal xt (.func f fi ca) .nilFunc).run P w=.ok false w:=by
   show(Op.equalIn (9999+1) xt (.func f fi ca) .nilFunc).run P w=_
   rw[Op.equalIn]
   simp only[Sem.run_bind,run_underlying hu',Result.andThen_ok,Sem.run_pure]
  exact⟨.bool true,by simp[execOp,e1,e2,hg,binOp,heq],.bool _⟩
end
end Go.Aw
namespace Go.Aw
open Go.RowKit Go.Maps
def R1(_:Value):Option (DataW Unit×List MemPlace):=some (.nil,[])
theorem zh3{P:Program}{kt:TypeId}(hk:P.underlying kt=some (.int .i64)){i:Int}(hw:(Lit.int .i64 i).wf=true):keyOf P kt (.int .i64 i)=some (.int .i64 i):=by
 simp[keyOf,hk,mapKey,hw]
theorem zhD{P:Program}{kt:TypeId}(hk:P.underlying kt=some (.int .i64)){S:St}{w:World}{es:Array MapEntry}{clock n:Nat}{f:Int→Option AV}(h:zun S w es clock n f)(hn:n≤maxLen):Go.WideElems.Fit P kt R1 es clock:=by
 refine⟨Nat.le_trans h.1 hn,h.2.1,fun x hx=>?_⟩
 obtain⟨i,h1,h2,_⟩:=h.2.2.1 x hx
 refine⟨(.int .i64 i,.nil),?_⟩
 unfold Go.WideElems.rd
 rw[h1,zh3 hk h2]
 rfl
theorem zoJ{P:Program}{kt:TypeId}(hk:P.underlying kt=some (.int .i64)){x:MapEntry}{i:Int}(h1:x.key=.int .i64 i)(h2:(Lit.int .i64 i).wf=true):Go.WideElems.rg P kt R1 x=(.int .i64 i,.nil):=by
 unfold Go.WideElems.rg Go.WideElems.rd
 rw[h1,zh3 hk h2]
 rfl
section
variable {P:Program} {ty:Ty} {w0:B0} {nt:Nat} {s:AS} {d:Option Nat} {t:TypeId} {pos:String} {af:Array Edge} {g:Option (Nat×Bool)}
theorem zod{u:TypeId}(id:Nat)(hid:s.blk id=none)(hd:zt nt d=true):OkOp P w0 nt ⟨d,.makeMap u none,t,pos,af,g⟩ s ((s.setB id (.mp none 0 (fun _=>none))).put d (.mp id)):=by
 intro β S a w next Q hs hn
 have hr:(execOp a.eval ⟨d,.makeMap u none,t,pos,af,g⟩).run P w=.ok (.value (.map (some w.heap.size))) (w.alloc (.map #[] 0)):=by
  simp[execOp,Instr.makeMap]
 unfold Oper.wp
 rw[hr]
 have hB:=zbM w (.map #[] 0)
 refine hn _ _ _ _ (zh0 hs hB hid hd (bi:=⟨w.heap.size,0,0,0⟩) (Nat.le_refl _) ⟨#[],0,heap_alloc_new w _,⟨Nat.le_refl _,⟨?_,?_,?_⟩,?_,?_⟩,fun o q=>absurd (hs.hh.hlt _ _ q) (Nat.lt_irrefl _),fun _ q=>by cases q⟩ (fun h=>.mp _ _ h))
 ·intro x hx;simp at hx
 ·simp
 ·simp
 ·intro x hx;simp at hx
 ·intro i v h;cases h
theorem zj4{u:TypeId}(id:Nat)(hid:(s.blk id).isNone=true)(hd:zt nt d=true):MStep P w0 nt ⟨d,.makeMap u none,t,pos,af,g⟩ s (.mp id) [(id,.mp none 0 (fun _=>none))]:=by
 intro t2 hle hfr
 exact zod id (hfr (_,_) (List.mem_singleton.2 rfl) (Option.isNone_iff_eq_none.1 hid)) hd
def zgq(f:Int→Option AV)(i:Int)(v:AV):Int→Option AV:=fun j=>if j=i then some v else f j
theorem zmj{u kt et:TypeId}{m k x:Operand}{id n:Nat}{i:Int}{pin:Option BI}{f:Int→Option AV}{v v':AV}(hu:P.underlying u=some (.map kt et))(hk:P.underlying kt=some (.int .i64))(hm:evO s m=some (.mp id))(hb:s.blk id=some (.mp pin n f))
 (hi:evO s k=some (.int .i64 i)) (hw:(Lit.int .i64 i).wf=true) (hx:evO s x=some v) (hv:argV s.blk v=some v') (hn:n <maxLen):
 OkOp P w0 nt ⟨none,.mapUpdate u m k x,t,pos,af,g⟩ s (s.setB id (.mp pin (n+1) (zgq f i v'))):=by
 intro β S a w next Q hs hq
 have h1:=zah hs hm
 have h2:=zah hs hi
 have h3:=zcb hs.hh (zah hs hx) hv
 generalize e1:a.eval m=am at h1
 generalize e2:a.eval k=ak at h2
 cases h1
 cases h2
 rename_i bi hbi
 obtain⟨bi2,q1,hbr,_⟩:=hs.hh.hblk id _ hb
 rw[hbi]at q1
 obtain rfl:=Option.some.inj q1
 obtain⟨es,clock,hh,hmi,hfree,hpin⟩:=hbr
 have F:=zhD hk hmi (Nat.le_of_lt hn)
 obtain⟨es',clock',hrun,F',hput,_,_,hmem⟩:=fit_store (R':=R1) (int_keyed hk) hu hh F (Nat.lt_of_le_of_lt hmi.1 hn) (fun _ _ _ _ hz=>hz) (zh3 hk hw) (val:=a.eval x) (yv:=(.nil,[])) rfl
 have hr:(execOp a.eval ⟨none,.mapUpdate u m k x,t,pos,af,g⟩).run P w=.ok .skip (ChangeMaps.setBlock w bi.b (.map es' clock')):=by
  simp[execOp,e1,e2,hrun]
 unfold Oper.wp
 rw[hr]
 have hw2:=hs.hh.write (k':=.mp pin (n+1) (zgq f i v')) hb rfl hbi hfree (w':=ChangeMaps.setBlock w bi.b (.map es' clock')) (by simp[ChangeMaps.setBlock]) (fun b hne=>ChangeMaps.heap_setBlock_other hh _ hne) rfl rfl rfl
  (fun hmono=>⟨es',clock',ChangeMaps.heap_setBlock_same hh _,⟨?_,F'.stamped,fun y hy=>?_,fun j vv hf=>?_⟩,hfree,hpin⟩)
 ·exact hq β S _ _ ⟨hw2.1,fun q z hz=>hw2.2 (hs.henv q z hz),hs.hsize,hs.hdefers⟩
 ·have e1:es'.size=((es'.toList.map (Go.WideElems.rg P kt R1)).foldr DataW.insert []).length:=by rw[length_sorted];simp
  rw[e1,hput]
  unfold ChangeMaps.putKey
  rw[length_insert]
  have e2:=List.length_filter_le (ChangeMaps.notKey (Lit.int .i64 i)) ((es.toList.map (Go.WideElems.rg P kt R1)).foldr DataW.insert [])
  rw[length_sorted]at e2
  simp at e2
  have:=hmi.1
  omega
 ·have hm2: ∀ {v x},VR nb S w v x→VR nb S (ChangeMaps.setBlock w bi.b (.map es' clock')) v x:=fun q=>q.mono (fun _ _ q=>by cases q) (fun b o q=>⟨q,World.cell?_of_block (ChangeMaps.heap_setBlock_other hh _ (fun e=>hfree o (e▸q)))⟩)
  rcases hmem y hy with⟨h4,h5⟩|⟨h4,h5⟩
  ·obtain⟨j,g1,g2,vv,g3,g4⟩:=hmi.2.2.1 y h4
   refine⟨j,g1,g2,vv,?_,hm2 g4⟩
   unfold zgq
   rw[if_neg (fun e=>h5 (by rw[g1,e]))]
   exact g3
  ·refine⟨i,h4,hw,v',?_,?_⟩
   ·unfold zgq;rw[if_pos rfl]
   ·rw[h5];exact hm2 h3
 ·have back: ∀ {j:Int},(Lit.int .i64 j,(DataW.nil:DataW Unit))∈(es'.toList.map (Go.WideElems.rg P kt R1)).foldr DataW.insert []→ ∃ x,x∈es'.toList∧x.key=.int .i64 j:=by
   intro j hj
   have:=(Go.WideShapes.sorted_perm _).mem_iff.1 hj
   obtain⟨x,hx,he⟩:=List.mem_map.1 this
   refine⟨x,hx,?_⟩
   obtain⟨y,hy⟩:=F'.reads x hx
   have hy2:Go.WideElems.rg P kt R1 x=y:=by unfold Go.WideElems.rg;rw[hy];rfl
   have hkx:=Go.WideElems.rd_key hy
   rw[←hy2,he]at hkx
   rcases hmem x hx with⟨h4,_⟩|⟨h4,_⟩
   ·obtain⟨j',g1,g2,_⟩:=hmi.2.2.1 x h4
    rw[g1,zh3 hk g2]at hkx
    rw[g1]
    simp at hkx
    rw[hkx]
   ·rw[h4,zh3 hk hw]at hkx
    rw[h4]
    simp at hkx
    rw[hkx]
  refine back ?_
  rw[hput]
  unfold ChangeMaps.putKey
  rw[Go.ChangeMaps.mem_insert_iff]
  by_cases hji:j=i
  ·exact .inl (by rw[hji])
  ·right
   unfold zgq at hf
   rw[if_neg hji]at hf
   obtain⟨x,hx,hkx⟩:=hmi.2.2.2 j vv hf
   obtain⟨j',g1,g2,_⟩:=hmi.2.2.1 x hx
   have:j'=j:=by rw[hkx]at g1;simp at g1;exact g1.symm
   subst this
   refine List.mem_filter.2 ⟨(Go.WideShapes.sorted_perm _).mem_iff.2 (List.mem_map.2 ⟨x,hx,zoJ hk g1 g2⟩),?_⟩
   simp[ChangeMaps.notKey,Lit.sameKey,hji]
theorem zfr{u kt et:TypeId}{m k x:Operand}{id n:Nat}{i:Int}{pin:Option BI}{f:Int→Option AV}{v v':AV}(hu:P.underlying u=some (.map kt et))(hk:P.underlying kt=some (.int .i64))(hm:evO s m=some (.mp id))(hb:s.blk id=some (.mp pin n f))
 (hi:evO s k=some (.int .i64 i)) (hw:(Lit.int .i64 i).wf=true) (hx:evO s x=some v) (hv:argV s.blk v=some v') (hn:n <maxLen):
 MStep P w0 nt ⟨none,.mapUpdate u m k x,t,pos,af,g⟩ s .any [(id,.mp pin (n+1) (zgq f i v'))]:=
 fun _ hle _=>zmj hu hk (zV hle hm) (hle.2 _ _ hb) (zV hle hi) hw (zV hle hx) (zeC hle hv) hn
theorem zsN{P:Program}{ty:Ty}(h:TyOK P ty){t:Nat}{i:TI}(ht:ty t=some i)(hd:(match i.desc with| .struct _=>true|_=>false)=true):
 ∃ ci z,P.info? t=some ci∧ci.zero=some z∧ ∀ (S:St) (w:World),VR nb S w z (.agg i.zero):=by
 have:=h t i ht
 unfold tiOK at this
 split at this
 ·rename_i ci d h1 h2
  simp only[Bool.and_eq_true]at this
  obtain⟨⟨⟨⟨a,b⟩,b2⟩,c⟩,e⟩:=this
  split at e
  ·rename_i z hz
   simp only[Bool.and_eq_true]at e
   refine⟨ci,z,h1,hz,fun S w=>?_⟩
   split at hd
   ·rename_i fs hfs
    have e3:=e.2
    rw[hfs]at e3
    have hag: ∃ cs,z=.agg cs:=by
     cases z <;>first
      |exact⟨_,rfl⟩
      |(simp at e3;done)
    obtain⟨cs,rfl⟩:=hag
    obtain⟨q1,q2⟩:=zcU (β:=nb) (S:=S) (w:=w) e.1.1
    refine .agg cs i.zero (by simpa[Value.cells]using q1) (fun j hj=>?_) (fun j hj=>?_)
    ·have:=(q2 j hj).1
     rwa[zag]at this
    ·have:=(q2 j hj).2
     rwa[zag]at this
   ·cases hd
  ·cases e
 ·cases this
def lookV(f:Int→Option AV)(i:Int)(z:AV):AV:=match f i with
 |some v=>.tup [v,.bool true]
 |none=>.tup [z,.bool false]
theorem zpo(hty:TyOK P ty){u kt et:TypeId}{m k:Operand}{id n:Nat}{i:Int}{pin:Option BI}{f:Int→Option AV}{ei:TI}(hu:P.underlying u=some (.map kt et))(hk:P.underlying kt=some (.int .i64))(hei:ty et=some ei)(hed:(match ei.desc with| .struct _=>true|_=>false)=true)
 (hm:evO s m=some (.mp id)) (hb:s.blk id=some (.mp pin n f)) (hi:evO s k=some (.int .i64 i)) (hw:(Lit.int .i64 i).wf=true) (hn:n≤maxLen) (hd:zt nt d=true):
 OkOp P w0 nt ⟨d,.lookup u m k true,t,pos,af,g⟩ s (s.put d (lookV f i (.agg ei.zero))):=by
 refine zaE hd fun β S a w hs=>?_
 have h1:=zah hs hm
 have h2:=zah hs hi
 generalize e1:a.eval m=am at h1
 generalize e2:a.eval k=ak at h2
 cases h1
 cases h2
 rename_i bi hbi
 obtain⟨bi2,q1,hbr,_⟩:=hs.hh.hblk id _ hb
 rw[hbi]at q1
 obtain rfl:=Option.some.inj q1
 obtain⟨es,clock,hh,hmi,hfree,hpin⟩:=hbr
 obtain⟨ci,z,hinf,hz,hvz⟩:=zsN hty hei hed
 have hzr:(zeroValue et).run P w=.ok z w:=by simp[zeroValue,typeInfo,hinf,hz]
 have two: ∀ {v:Value} {x:AV} {b:Bool},VR nb S w v x→VR β S w (.tuple #[v,.bool b]) (.tup [x,.bool b]):=fun{v x b} hv=>
  .tup #[v,.bool b] [x,.bool b] rfl (fun j hj=>by
   match j,hj with
   |0,_=>exact VR.up hv
   |1,_=>exact .bool b)
 rcases fit_look true (int_keyed hk) hu hzr hh (zhD hk hmi hn) (zh3 hk hw)with⟨hrun,hno,_⟩|⟨e0,y,he0,hke,hrun,_⟩
 ·have hf:f i=none:=by
   cases q:f i with
   |none=>rfl
   |some v=>
    obtain⟨x,hx,hxk⟩:=hmi.2.2.2 i v q
    exact absurd hxk (hno x hx)
  refine⟨.tuple #[z,.bool false],by simp[execOp,e1,e2,hrun],?_⟩
  unfold lookV
  rw[hf]
  exact two (hvz S w)
 ·obtain⟨j,g1,g2,v,g3,g4⟩:=hmi.2.2.1 e0 he0
  rw[g1]at hke
  have hji:j=i:=by simpa using hke
  subst hji
  refine⟨.tuple #[e0.val,.bool true],by simp[execOp,e1,e2,hrun],?_⟩
  unfold lookV
  rw[g3]
  exact two g4
theorem zf4(hty:TyOK P ty){u kt et:TypeId}{m k:Operand}{id n:Nat}{i:Int}{pin:Option BI}{f:Int→Option AV}{ei:TI}{r:AV}(hu:P.underlying u=some (.map kt et))(hk:P.underlying kt=some (.int .i64))(hei:ty et=some ei)(hed:(match ei.desc with| .struct _=>true|_=>false)=true)
 (hm:evO s m=some (.mp id)) (hb:s.blk id=some (.mp pin n f)) (hi:evO s k=some (.int .i64 i)) (hw:(Lit.int .i64 i).wf=true) (hn:n≤maxLen) (hr:lookV f i (.agg ei.zero)=r) (hd:zt nt d=true):
 MStep P w0 nt ⟨d,.lookup u m k true,t,pos,af,g⟩ s r []:=by
 subst hr
 exact fun _ hle _=>zpo hty hu hk hei hed (zV hle hm) (hle.2 _ _ hb) (zV hle hi) hw hn hd
end
end Go.Aw
namespace Go.Aw
open Go.RowKit Go.Maps
structure SortedOf (P:Program) (fK fS fI:Nat) (kt ti tb:TypeId):Prop where
 keys: ∀ (mb:Option Nat) (w:World),Calls P fK #[.map mb] w fun e w'=>e=.returned (.func (.func fI) #[] #[.pointer (some ⟨w.heap.size,0,none⟩)])∧w'=w.alloc (.cells #[.map mb] tb)
 sorted: ∀ (b nn Bm:Nat) (D0:DataW Unit) (w:World),w.ownsMap P kt R1 b nn D0→w.cell? ⟨Bm,0,none⟩=some (.map (some b))→Bm <w.heap.size→Maps.size D0≤maxLen→Maps.size D0*8≤140737488355328→
  Calls P fS #[.func (.func fI) #[] #[.pointer (some ⟨Bm,0,none⟩)]] w fun e w'=> ∃ (v:Value) (ss:List Int),e=.returned v∧ss.Perm (intKeys D0)∧
   w'.ownsRow w.heap.size ti 1 v ss.length ((ss.mergeSort (fun x y=>decide (x≤y))).map encZ)∧(v=.slice none 0 0↔ss=[])∧Below w.heap.size w w'
 fnK: ∃ fn,P.funcs[fK]? =some fn∧fn.body.isNone=false∧(fn.name=="runtime.NumGoroutine")=false
 fnS: ∃ fn,P.funcs[fS]? =some fn∧fn.body.isNone=false∧(fn.name=="runtime.NumGoroutine")=false
section
variable {P:Program} {ty:Ty} {w0:B0} {nt:Nat} {s:AS} {d:Option Nat} {t:TypeId} {pos:String} {af:Array Edge} {g:Option (Nat×Bool)}
theorem zir{f:Nat}(hfn: ∃ fn,P.funcs[f]? =some fn∧fn.body.isNone=false∧(fn.name=="runtime.NumGoroutine")=false)(a:Act)(w:World)(as:Array Operand)(ts:Array TypeId):
 (execOp a.eval ⟨d,.call {callee:=.value (.func f),args:=as,argTypes:=ts},t,pos,af,g⟩).run P w=.ok (.enter f (as.map a.eval)) w:=by
 obtain⟨fn,hf,hbody,hname⟩:=hfn
 have hcf:(callFunc f (as.map a.eval)).run P w=.ok (.enter f (as.map a.eval)) w:=by
  unfold callFunc
  rw[Sem.run_bind,run_program,Result.andThen_ok]
  simp only[hf,hname,hbody,Bool.false_eq_true,if_false,Sem.run_pure]
 simp[execOp,resolve,Act.eval,Deferred.ofValue,invoke,hcf]
theorem zt0{fK fS fI:Nat}{kt ti tb:TypeId}(hS:SortedOf P fK fS fI kt ti tb){x:Operand}{ts:Array TypeId}{im:Nat}(id:Nat)(hid:s.blk id=none)(hx:evO s x=some (.mp im))(hd:zt nt d=true):
 OkOp P w0 nt ⟨d,.call {callee:=.value (.func fK),args:= #[x],argTypes:=ts},t,pos,af,g⟩ s ((s.setB id (.box [.mp im])).put d (.fn (.func fI) [] [.ptr id 0])):=by
 intro β S a w next Q hs hn
 have h1:=zah hs hx
 generalize e1:a.eval x=am at h1
 cases h1
 rename_i bi hbi
 have hr:=zir (d:=d) (t:=t) (pos:=pos) (af:=af) (g:=g) hS.fnK a w #[x] ts
 rw[show(#[x]:Array Operand).map a.eval= #[.map (some bi.b)] by rw[←e1];exact List.map_toArray]at hr
 unfold Oper.wp
 rw[hr]
 simp only[Oper.upon]
 refine(hS.keys (some bi.b) w).mono ?_
 rintro e w' ⟨rfl,rfl⟩
 have hB:=zbM w (.cells #[.map (some bi.b)] tb)
 have hne: ∀ i b,β i=some b→upd β id ⟨w.heap.size,0,0,0⟩ i=some b:=by
  intro i b q
  by_cases e:i=id
  ·subst e;obtain⟨k,hk⟩:=hs.hh.hdom i b q;rw[hid]at hk;cases hk
  ·rw[zJ β _ e];exact q
 refine hn _ _ _ _ (zh0 hs hB hid hd (bi:=⟨w.heap.size,0,0,0⟩) (Nat.le_refl _) ⟨#[.map (some bi.b)],tb,heap_alloc_new w _,rfl,?_,fun o q=>absurd (hs.hh.hlt _ _ q) (Nat.lt_irrefl _),fun _ q=>by cases q⟩ (fun h=>?_))
 ·intro j hj
  obtain rfl:j=0:=by simp at hj;omega
  exact⟨.mp im bi (hne _ _ hbi),rfl⟩
 ·refine .fn _ _ _ _ _ rfl rfl (fun j hj=>by simp at hj) (fun j hj=>?_)
  obtain rfl:j=0:=by simp at hj;omega
  exact .ptr id 0 _ h
theorem zuy{fK fS fI:Nat}{kt ti tb:TypeId}(hS:SortedOf P fK fS fI kt ti tb){x:Operand}{ts:Array TypeId}{im:Nat}(id:Nat)(hid:(s.blk id).isNone=true)(hx:evO s x=some (.mp im))(hd:zt nt d=true):
 MStep P w0 nt ⟨d,.call {callee:=.value (.func fK),args:= #[x],argTypes:=ts},t,pos,af,g⟩ s (.fn (.func fI) [] [.ptr id 0]) [(id,.box [.mp im])]:=by
 intro t2 hle hfr
 exact zt0 hS id (hfr (_,_) (List.mem_singleton.2 rfl) (Option.isNone_iff_eq_none.1 hid)) (zV hle hx) hd
def rsI(l:List Int):List (List AV):=l.map fun i=>[.int .i64 i]
theorem zap(l:List Int):(rsI l).length=l.length:=List.length_map _
theorem zd6{l:List Int}{i:Nat}{x:Int}(h:l[i]? =some x):(rsI l)[i]? =some [.int .i64 x]:=by unfold rsI;rw[List.getElem?_map,h];rfl
theorem zr7{ops:Array Oper}{l:List Oper}{K:AS→Prop}{fK fS fI:Nat}{kt ti tb:TypeId}(hS:SortedOf P fK fS fI kt ti tb)(hk:P.underlying kt=some (.int .i64)){x:Operand}{ts:Array TypeId}{im ib n:Nat}{pin p2:Option BI}{f:Int→Option AV}(id:Nat)(hid:(s.blk id).isNone=true)
 (hx:evO s x=some (.fn (.func fI) [] [.ptr ib 0])) (hb:s.blk ib=some (.bx p2 [.mp im])) (hm:s.blk im=some (.mp pin n f)) (hn:n≤1048576) (hd:zt nt d=true)
 (h0:(∀ i,f i=none)→WL P w0 nt ops l (s.put d (.lst 1 [] true)) K)
 (h1: ∀ zs:List Int,zs≠[]→zs.length≤n→(∀ i,i∈zs↔(f i).isSome=true)→WL P w0 nt ops l ((s.setB id (.arr ti 1 (rsI zs) true)).put d (.arr id)) K):
 WL P w0 nt ops (⟨d,.call {callee:=.value (.func fS),args:= #[x],argTypes:=ts},t,pos,af,none⟩::l) s K:=by
 intro β S a w Q hs hq
 refine wpList_plain rfl fun N hN=>?_
 obtain⟨bi1,q1,hbr1,_⟩:=hs.hh.hblk ib _ hb
 obtain⟨bi2,q2,hbr2,_⟩:=hs.hh.hblk im _ hm
 obtain⟨es,clock,hh,hmi,hfree,_⟩:=hbr2
 obtain⟨cs,ct,g1,g2,g3,_,_⟩:=hbr1
 have hx1:=zah hs hx
 obtain⟨am,e1⟩: ∃ am,am=a.eval x:=⟨_,rfl⟩
 rw[←e1]at hx1
 have ham:am=.func (.func fI) #[] #[.pointer (some ⟨bi1.b,0,none⟩)]:=by
  cases hx1 with
  |fn _ fi ca _ _ r1 r2 r3 r4=>
   have c1:fi= #[]:=Array.eq_empty_of_size_eq_zero (by simpa using r1)
   have c2:=r4 0 (by simp)
   have c3:ca= #[ca.getD 0 undef]:=by
    have:ca.size=1:=by simpa using r2
    apply Array.ext
    ·simp[this]
    ·intro i hi1 hi2
     obtain rfl:i=0:=by omega
     simp[Array.getD,this]
   rw[c1,c3]
   generalize ca.getD 0 undef=u at c2
   cases c2 with
   |ptr _ _ b3 hb3=>
    have:some b3=some bi1:=hb3.symm.trans q1
    obtain rfl:=Option.some.inj this
    rfl
 subst ham
 have hcell:w.cell? ⟨bi1.b,0,none⟩=some (.map (some bi2.b)):=by
  have c2:=(g3 0 (by simp)).1
  have hsz:cs.size=1:=g2
  have:cs[0]? =some (cs.getD (0+0) undef):=by simp[Array.getD,hsz]
  rw[show([.mp im]:List AV).getD 0 .any=.mp im from rfl]at c2
  generalize cs.getD (0+0) undef=u at c2 this
  cases c2 with
  |mp _ b3 hb3=>
   have h5:some b3=some bi2:=hb3.symm.trans q2
   obtain rfl:=Option.some.inj h5
   simp[World.cell?,g1,this]
 have hr:=zir (d:=d) (t:=t) (pos:=pos) (af:=af) (g:=none) hS.fnS a w #[x] ts
 rw[show(#[x]:Array Operand).map a.eval= #[.func (.func fI) #[] #[.pointer (some ⟨bi1.b,0,none⟩)]] by rw[e1];exact List.map_toArray]at hr
 have F:=zhD (kt:=kt) hk hmi (Nat.le_trans hn (by decide))
 have hown:w.ownsMap P kt R1 bi2.b n (.map ((es.toList.map (Go.WideElems.rg P kt R1)).foldr DataW.insert [])):=⟨es,clock,hh,F,hmi.1,rfl⟩
 have hsz:Maps.size (DataW.map ((es.toList.map (Go.WideElems.rg P kt R1)).foldr DataW.insert []):DataW Unit)≤n:=by
  rw[Maps.size_eq,length_sorted];simpa using hmi.1
 have hkey: ∀ i:Int,i∈intKeys (DataW.map ((es.toList.map (Go.WideElems.rg P kt R1)).foldr DataW.insert []):DataW Unit)↔(f i).isSome=true:=by
  intro i
  unfold intKeys
  simp only[List.mem_map]
  constructor
  ·rintro ⟨p,hp,hpi⟩
   have:=(Go.WideShapes.sorted_perm _).mem_iff.1 hp
   obtain⟨y,hy,rfl⟩:=List.mem_map.1 this
   obtain⟨j,z1,z2,v,z3,_⟩:=hmi.2.2.1 y hy
   rw[zoJ hk z1 z2]at hpi
   obtain rfl:j=i:=hpi
   rw[z3];rfl
  ·intro hi
   obtain⟨v,hv⟩:=Option.isSome_iff_exists.1 hi
   obtain⟨y,hy,hyk⟩:=hmi.2.2.2 i v hv
   obtain⟨j,z1,z2,_⟩:=hmi.2.2.1 y hy
   have:j=i:=by rw[hyk]at z1;simp at z1;exact z1.symm
   subst this
   exact⟨_,(Go.WideShapes.sorted_perm _).mem_iff.2 (List.mem_map.2 ⟨y,hy,rfl⟩),by rw[zoJ hk z1 z2];rfl⟩
 unfold Oper.wp
 rw[hr]
 simp only[Oper.upon]
 refine(hS.sorted bi2.b n bi1.b _ w hown hcell (zed g1) (Nat.le_trans hsz (Nat.le_trans hn (by decide))) (Nat.le_trans (Nat.mul_le_mul_right 8 (Nat.le_trans hsz hn)) (by decide))).mono ?_
 rintro e w' ⟨v,ss,rfl,hperm,hrow,hnil,hB⟩
 have hmem: ∀ i,i∈ss.mergeSort (fun x y=>decide (x≤y))↔(f i).isSome=true:=fun i=>((List.mergeSort_perm ss _).mem_iff.trans hperm.mem_iff).trans (hkey i)
 have hlen:(ss.mergeSort (fun x y=>decide (x≤y))).length=ss.length:=(List.mergeSort_perm ss _).length_eq
 have hln:ss.length≤n:=by
  rw[hperm.length_eq]
  unfold intKeys
  rw[List.length_map]
  exact hsz
 obtain⟨z1,z2⟩:=hs.hh.extS hB (fun _ _ q=>q) (fun _ _ q _=>q) (fun b o q=>Nat.lt_of_lt_of_le (hs.hh.hlt b o q) hB.size)
 have hs2:SR w0 nt β S s a w':=⟨z1,fun u y q=>z2 (hs.henv u y q),hs.hsize,hs.hdefers⟩
 by_cases hss:ss=[]
 ·obtain rfl:=hnil.2 hss
  exact hN _ _ (h0 (fun i=>by
   cases q:f i with
   |none=>rfl
   |some v=>have:=(hmem i).2 (by rw[q];rfl);rw[hss]at this;simp at this) β S _ w' Q (hs2.put hd (.lst0 1 true)) hq)
 ·rcases hrow.2 with⟨hv,_⟩|⟨gb,cap,cur,rfl,hge,hgb,hle,hcap,hcs,htake⟩
  ·exact absurd (hnil.1 hv) hss
  ·generalize ss.mergeSort (fun x y=>decide (x≤y))=zs at hmem hlen htake
   have hid':s.blk id=none:=Option.isNone_iff_eq_none.1 hid
   have hnot: ∀ o,¬S gb o:=fun o q=>by have:=hs.hh.hlt gb o q;omega
   have hbr:BR nb S w' ⟨gb,ss.length,cap,1⟩ (.arr ti 1 (rsI zs) true):=by
    refine⟨rfl,by rw[zap];exact hlen.symm,cur,hgb,hle,hcap,hcs,fun i hi=>?_,fun _ o q=>hnot o q,fun q=>by(cases q),fun _ q=>by cases q⟩
    rw[zap]at hi
    obtain⟨z,hz⟩: ∃ z,zs[i]? =some z:=⟨zs[i],List.getElem?_eq_getElem hi⟩
    have hzr:=zd6 hz
    have e2:(rsI zs).getD i []=[.int .i64 z]:=by rw[List.getD_eq_getElem?_getD,hzr];rfl
    rw[e2]
    refine⟨rfl,fun j hj=>?_⟩
    obtain rfl:j=0:=by simp at hj;omega
    have hc:cur.getD (i*1+0) undef=.int .i64 z:=by
     have hit:i <ss.length*1:=by omega
     have:(cur.toList.take (ss.length*1))[i]? =some (.int .i64 z):=by
      rw[htake,List.getElem?_map,hz];rfl
     rw[List.getElem?_take_of_lt hit]at this
     rw[Nat.mul_one,Nat.add_zero]
     have h6:cur[i]? =some (.int .i64 z):=by rw[←Array.getElem?_toList];exact this
     rw[Array.getD_eq_getD_getElem?,h6];rfl
    rw[hc]
    exact⟨.int _ _,rfl⟩
   obtain⟨y1,y2⟩:=z1.addB hid' hbr (fun ho=>by have:=w0.hlt0 _ ho;have:w0.w.heap.size≤w.heap.size:=hs.hh.hbelow.size;simp only at*;omega) (fun i bj kj p q lv=>by
    obtain⟨b9,r1,r2,_⟩:=hs.hh.hblk i kj q
    rw[p]at r1
    obtain rfl:=Option.some.inj r1
    have:=r2.lt lv
    simp only;omega)
   have hs3:SR w0 nt (upd β id ⟨gb,ss.length,cap,1⟩) S (s.setB id (.arr ti 1 (rsI zs) true)) a w':=⟨y1,fun u y q=>y2 (hs2.henv u y q),hs.hsize,hs.hdefers⟩
   exact hN _ _ (h1 zs (fun q=>hss (by rw[q]at hlen;exact List.eq_nil_of_length_eq_zero hlen.symm)) (by omega) hmem _ S _ w' Q (hs3.put hd (.arr id _ (zR _ _ _))) hq)
end
end Go.Aw
namespace Go.Aw
open Go.RowKit
def grV(id es:Nat):List (List AV)→AV
 |[]=>.lst es [] true
 |_::_=>.arr id
def grB(e es:Nat):List (List AV)→AB
 |[]=>.gone
 |r::l=>.arr e es (r::l) true
theorem zko{α:Type}{f:Nat→Option α}{i:Nat}{v:α}(h:f i=some v):upd f i v=f:=by
 funext j
 by_cases e:j=i
 ·subst e;rw[zR,h]
 ·rw[zJ _ _ e]
section
variable {P:Program} {ty:Ty} {w0:B0} {nt:Nat} {s:AS} {d:Option Nat} {t:TypeId} {pos:String} {af:Array Edge} {g:Option (Nat×Bool)}
theorem zcc(id:Nat)(hid:s.blk id=none):Less s (s.setB id .gone):=by
 intro w0 nt β S a w hs
 obtain⟨y1,y2⟩:=hs.hh.addB (k:=.gone) (bi:=⟨w.heap.size,0,0,0⟩) hid trivial (fun ho=>by have:=w0.hlt0 _ ho;have:w0.w.heap.size≤w.heap.size:=hs.hh.hbelow.size;simp only at*;omega) (fun i bj kj p q lv=>by
  obtain⟨b9,r1,r2,_⟩:=hs.hh.hblk i kj q
  rw[p]at r1
  obtain rfl:=Option.some.inj r1
  have:=r2.lt lv
  simp only;omega)
 exact⟨_,S,y1,fun t x q=>y2 (hs.henv t x q),hs.hsize,hs.hdefers⟩
theorem zq2{id0 id e es:Nat}{rows:List (List AV)}(hk:s.blk id0=some (.arr e es rows true))(hid:s.blk id=none):
 Less (s.put d (.arr id0)) (((s.setB id0 .gone).setB id (.arr e es rows true)).put d (.arr id)):=by
 intro w0 nt β S a w hs
 obtain⟨bi,hbi,hbr,hge⟩:=hs.hh.hblk id0 _ hk
 have hidne:id≠id0:=fun q=>by subst q;rw[hid]at hk;cases hk
 obtain⟨t1,t2⟩:=hs.hh.turn (k':=.gone) (S':=S) hk rfl hbi (fun b o=>⟨.inl,fun q=>q.elim (fun q=>q) (fun q=>q.2)⟩) (fun _=>trivial)
 have hid2:upd s.blk id0 .gone id=none:=by rw[zJ _ _ hidne];exact hid
 obtain⟨y1,y2⟩:=t1.addB (k:=.arr e es rows true) (bi:=bi) hid2 hbr (hge rfl) (fun i bj kj p q lv=>by
  by_cases ei:i=id0
  ·subst ei
   rw[zR]at q
   obtain rfl:=Option.some.inj q
   cases lv
  ·rw[zJ _ _ ei]at q
   exact hs.hh.hinj i id0 bj bi kj _ ei q lv hk rfl p hbi)
 refine⟨_,S,⟨y1,fun u x q=>?_,hs.hsize,hs.hdefers⟩⟩
 cases d with
 |none=>exact y2 (t2 (hs.henv u x q))
 |some t0=>
  by_cases e:u=t0
  ·subst e
   have hx:x=.arr id:=(Option.some.inj ((zR _ _ _).symm.trans q)).symm
   subst hx
   have:=hs.henv u (.arr id0) (zR _ _ _)
   generalize a.tmps.getD u undef=v at this⊢
   cases this with
   |arr _ b2 hb2=>
    rw[hbi]at hb2
    obtain rfl:=Option.some.inj hb2
    exact .arr id _ (zR _ _ _)
  ·have q1:s.env u=some x:=(zJ _ _ e).symm.trans q
   exact y2 (t2 (hs.henv u x ((zJ _ _ e).trans q1)))
theorem zck(hty:TyOK P ty){u e es b:Nat}{x y:Operand}{q:AV}{id0 es2:Nat}{rows rows2:List (List AV)}(id:Nat)(he:zl7 ty u=some (e,es,b))(hid:(s.blk id).isNone=true)(hx:evO s x=some (grV id0 es rows))
 (hk:s.blk id0=some (grB e es rows)) (hy:evO s y=some q) (hq:zaP s.blk q=some (es2,rows2)) (hes2:Nat.beq es2 es=true)
 (hn:rows.length+rows2.length≤4194304) (hb:Nat.ble b 65536=true) (hb0:Nat.blt 0 b=true) (hd:zt nt d=true):
 MStep P w0 nt ⟨d,.call {callee:=.builtin .append,args:= #[x,y],argTypes:= #[u,u]},t,pos,af,g⟩ s (grV id es (rows++rows2)) [(id0,.gone),(id,grB e es (rows++rows2))]:=by
 intro t2 hle hfr
 have hidn:t2.blk id=none:=hfr (id,_) (List.mem_cons_of_mem _ (List.mem_singleton.2 rfl)) (Option.isNone_iff_eq_none.1 hid)
 have hkt:=hle.2 _ _ hk
 cases rows with
 |nil=>
  have e0:upd t2.blk id0 .gone=t2.blk:=zko hkt
  cases rows2 with
  |nil=>
   refine(zlC (P:=P) (w0:=w0) (t:=t) (pos:=pos) (af:=af) (g:=g) hty he hx (r1:=(es,[])) rfl hy hq rfl hd t2 hle (fun p hp=>by cases hp)).less ?_
   have:=zcc (s:=t2.put d (grV id0 es [])) id hidn
   intro w0 nt β S a w hs
   obtain⟨β',S',h⟩:=this _ _ _ _ _ _ hs
   refine⟨β',S',?_⟩
   show SR w0 nt β' S' ⟨_,upd (upd t2.blk id0 .gone) id .gone⟩ a w
   rw[e0];exact h
  |cons r l=>
   refine(ze7 (P:=P) (w0:=w0) (t:=t) (pos:=pos) (af:=af) (g:=g) hty id he hid (rows:=[]) (es0:=es) hx rfl hy hq hes2 (List.cons_ne_nil _ _) hn hb hb0 hd t2 hle (fun p hp _=>by obtain rfl:=List.mem_singleton.1 hp;exact hidn)).less ?_
   intro w0 nt β S a w hs
   refine⟨β,S,?_⟩
   show SR w0 nt β S ⟨_,upd (upd t2.blk id0 .gone) id _⟩ a w
   rw[e0];exact hs
 |cons a0 r0=>
  cases rows2 with
  |nil=>
   have h:=zlC (P:=P) (w0:=w0) (t:=t) (pos:=pos) (af:=af) (g:=g) hty he hx (r1:=(es,a0::r0)) (show zaP s.blk (.arr id0)=_ by simp only[zaP,hk,grB]) hy hq rfl hd t2 hle (fun p hp=>by cases hp)
   simp only[List.append_nil]
   exact h.less (zq2 (s:=t2) hkt hidn)
  |cons r l=>
   exact zgH (P:=P) (w0:=w0) (t:=t) (pos:=pos) (af:=af) (g:=g) hty id he hid hx hk (Nat.beq_refl _) hy hq hes2 (List.cons_ne_nil _ _) hn hb hb0 hd t2 hle hfr
theorem zqQ(u id:Nat){e es:Nat}{rows:List (List AV)}(hu:s.env u=some (grV id es rows))(hk:s.blk id=some (grB e es rows)):Less s ⟨upd s.env u (.lst es rows false),upd s.blk id .gone⟩:=by
 cases rows with
 |nil=>
  rw[show upd s.blk id .gone=s.blk from zko hk]
  intro w0 nt β S a w hs
  refine⟨β,S,hs.hh,fun j x q=>?_,hs.hsize,hs.hdefers⟩
  by_cases e1:j=u
  ·subst e1
   have hx:x=.lst es [] false:=(Option.some.inj ((zR _ _ _).symm.trans q)).symm
   subst hx
   exact(Wk.nilF es es true).ok (hs.henv j _ hu)
  ·exact hs.henv j x ((zJ _ _ e1).symm.trans q)
 |cons a0 r0=>
  intro w0 nt β S a w hs
  obtain⟨bi,hbi,_⟩:=hs.hh.hblk id _ hk
  obtain⟨S',h1,h2,_⟩:=hs.hh.freeze hk hbi
  have hk2:upd s.blk id (.arr e es (a0::r0) false) id=some (.arr e es (a0::r0) false):=zR _ _ _
  have hv:=zcb h1 (h2 (hs.henv u _ hu)) (show argV (upd s.blk id (.arr e es (a0::r0) false)) (.arr id)=some (.lst es (a0::r0) false) by simp only[argV,argS,hk2])
  obtain⟨t1,t2⟩:=h1.turn (k':=.gone) (S':=S') hk2 rfl hbi (fun b o=>⟨.inl,fun q=>q.elim (fun q=>q) (fun q=>q.2)⟩) (fun _=>trivial)
  rw[zty]at t1
  refine⟨β,S',t1,fun j x q=>?_,hs.hsize,hs.hdefers⟩
  by_cases e1:j=u
  ·subst e1
   have hx:x=.lst es (a0::r0) false:=(Option.some.inj ((zR _ _ _).symm.trans q)).symm
   subst hx
   exact t2 (VR.up hv)
  ·exact t2 (h2 (hs.henv j x ((zJ _ _ e1).symm.trans q)))
theorem zvh{ρ:List (Nat×Nat)}{id es:Nat}{rows:List (List AV)}:rnV ρ (grV id es rows)=grV (rn ρ id) es rows:=by cases rows <;>rfl
theorem zgT{ρ:List (Nat×Nat)}{id id' es:Nat}{rows rows':List (List AV)}(h:Nat.beq (rn ρ id) id'=true)(hr:rows'=rows):Wk (grV id' es rows') (rnV ρ (grV id es rows)):=by
 rw[zvh,Nat.eq_of_beq_eq_true h,hr];exact .refl _
theorem zc7{ids:List Nat}{id es:Nat}{rows:List (List AV)}(h:ids.any (Nat.beq id)=true):keepV ids (grV id es rows)=true:=by
 cases rows
 ·rfl
 ·exact h
theorem zdt{ρ:List (Nat×Nat)}{e es:Nat}{rows rows':List (List AV)}(hr:rows'=rows):WkB (grB e es rows') (rnB ρ (grB e es rows)):=by
 subst hr
 cases rows' <;>exact .refl _
theorem zbu{ids:List Nat}{e es:Nat}{rows:List (List AV)}:keepB ids (grB e es rows)=true:=by cases rows <;>rfl
end
end Go.Aw
namespace Go.Aw
open Go.RowKit
theorem ztS{S':St}{w w':World}{v:Value}{e es:Nat}{rows:List (List AV)}{wr:Bool}{b:Nat}(h:OwnV S' w w' v e es rows wr b)(hlt: ∀ b o,S' b o→b <w'.heap.size):
 ∃ S'':St,(∀ b o,S' b o→S'' b o)∧(∀ b o,S'' b o→S' b o∨w.heap.size≤b)∧(∀ b o,S'' b o→b <w'.heap.size)∧VR nb S'' w' v (.lst es rows false):=by
 obtain⟨bi,_,rfl,hge,h3,h4,cs,h5,h6,h7,h8,h9,h10,h11,h12⟩:=h
 have hb:=zed h5
 refine⟨fun b o=>S' b o∨(b=bi.b∧o <bi.n*es),fun _ _ q=>.inl q,fun b o q=>q.elim .inl (fun q=>.inr (q.1▸hge)),fun b o q=>q.elim (hlt b o) (fun q=>q.1▸hb),?_⟩
 refine .lst bi.b 0 bi.n bi.c es rows false (fun i j=>cs.getD (i*es+j) undef) h4.symm h6 (fun q=>by cases q) (fun i hi=>(h9 i (by omega)).1) (fun i j hi hj=>?_) (fun i j hi hj=>?_)
 ·have hl:i*es+j <bi.n*es:=by
   have:(i+1)*es≤bi.n*es:=Nat.mul_le_mul_right _ hi
   rw[Nat.add_mul]at this;omega
  have hsz:i*es+j <cs.size:=by
   rw[h8];exact Nat.lt_of_lt_of_le hl (Nat.mul_le_mul_right _ h6)
  have hrow:=h9 i (by omega)
  refine⟨.inr ⟨rfl,by omega⟩,?_,(hrow.2 j (by rw[hrow.1];exact hj)).2⟩
  rw[Nat.zero_add]
  simp[World.cell?,h5,Array.getD,hsz]
 ·have hrow:=h9 i (by omega)
  exact(hrow.2 j (by rw[hrow.1];exact hj)).1.mono (fun _ _ q=>q) (fun b o q=>⟨.inl q,rfl⟩)
theorem PC.seen{P:Program}{f:Nat}{args:List AV}{e es:Nat}{rows:List (List AV)}{wr:Bool}(h:PC P f args (.own e es rows wr)):PC P f args (.lst es rows false):=by
 intro w S0 ca h1 h2 h3
 refine(h w S0 ca h1 h2 h3).mono ?_
 rintro e w' ⟨v,S',rfl,hB,g1,g2,g3,b,g4⟩
 obtain⟨S'',k1,k2,k3,k4⟩:=ztS (show OwnV S' w w' v _ _ _ _ b from g4) g3
 exact⟨v,S'',rfl,hB,fun b o q=>k1 b o (g1 b o q),fun b o q hlt=>(k2 b o q).elim (fun q=>g2 b o q hlt) (fun q=>absurd hlt (by omega)),k3,b,k4⟩
theorem FC.seen{P:Program}{f:Nat}{args:List AV}{e es:Nat}{rows:List (List AV)}{wr:Bool}(h:FC P f args (.own e es rows wr)):FC P f args (.lst es rows false):=⟨h.pc.seen,h.fn⟩
theorem PC.weak{P:Program}{f:Nat}{args:List AV}{x y:AV}(hx:za3 x=false)(hy:za3 y=false)(ht: ∀ l,x≠.tup l)(ht2: ∀ l,y≠.tup l)(hw:Wk x y)(h:PC P f args x):PC P f args y:=by
 intro w S0 ca h1 h2 h3
 refine(h w S0 ca h1 h2 h3).mono ?_
 rintro e w' ⟨v,S',rfl,hB,g1,g2,g3,g4⟩
 have hv:VR nb S' w' v x:=by
  cases x <;>first
   |(obtain⟨b,g4⟩:=g4;exact g4)
   |(exact absurd rfl (ht _))
   |(simp[za3]at hx)
 have:=hw.ok hv
 refine⟨v,S',rfl,hB,g1,g2,g3,?_⟩
 cases y <;>first
  |(exact absurd rfl (ht2 _))
  |exact⟨0,this⟩
  |(simp[za3]at hy)
theorem FC.weak{P:Program}{f:Nat}{args:List AV}{x y:AV}(hx:za3 x=false)(hy:za3 y=false)(ht: ∀ l,x≠.tup l)(ht2: ∀ l,y≠.tup l)(hw:Wk x y)(h:FC P f args x):FC P f args y:=⟨h.pc.weak hx hy ht ht2 hw,h.fn⟩
theorem zux{ρ:List (Nat×Nat)}{id es:Nat}{rows:List (List AV)}:rnS ρ (grV id es rows)=grV (rn ρ id) es rows:=by cases rows <;>rfl
theorem zqf{ρ:List (Nat×Nat)}{id id' es:Nat}{rows rows':List (List AV)}(h:Nat.beq (rn ρ id) id'=true)(hr:rows'=rows):Wk (grV id' es rows') (rnS ρ (grV id es rows)):=by
 rw[zux,Nat.eq_of_beq_eq_true h,hr];exact .refl _
theorem zg0{ids:List Nat}{id es:Nat}{rows:List (List AV)}(h:ids.any (Nat.beq id)=true):zfb ids (grV id es rows)=true:=by
 cases rows
 ·rfl
 ·exact h
section
variable {P:Program} {ty:Ty} {w0:B0} {nt:Nat} {s:AS} {t:TypeId} {pos:String} {af:Array Edge} {g:Option (Nat×Bool)}
end
end Go.Aw
namespace Go.Aw
open Go.RowKit
def ziO(s:AS)(mx:Nat)(e:Ent):Option Nat:=match e.bs with
 |[]=>match e.d with
  |some u=>match Nat.ble mx u,s.env u with
   |true,none=>some u
   |_,_=>none
  |none=>none
 |_::_=>none
def zu1(mx:Nat)(e:Ent):Nat:=match e.d with
 |some u=>Nat.max mx (u+1)
 |none=>mx
def zvl(pt:List (List Nat))(s:AS)(ents:List Ent)(j:Nat)(e:Ent):Bool:=match e.bs with
 |[]=>true
 |_::_=>newE pt s ents j e
def zta(pt:List (List Nat))(s:AS)(ents:List Ent):Nat→Nat→List Ent→Bool
 |_,_,[]=>true
 |j,mx,e::l=>zvl pt s ents j e&&match ziO s mx e with
  |some u=>zta pt s ents (j+1) (u+1) l
  |none=>(ents.zipIdx.all fun p=> !(Nat.blt p.2 j)||pr pt j p.2||ze8 pt s ents p.2 p.1 e)&&zta pt s ents (j+1) (zu1 mx e) l
def zsF(pt:List (List Nat))(s:AS)(ents:List Ent):Bool:=zta pt s ents 0 0 ents
theorem zom{D:Nat→Bool}{f:Nat→Option AV}{u:Nat}(hf:f u=none): ∀ {r:List Ent},(∀ e,e∈r→isE u e=false)→lkE D f u r=none
 |[],_=>hf
 |e::l,h=>by
  simp only[lkE,h e List.mem_cons_self]
  exact zom hf fun e he=>h e (List.mem_cons_of_mem _ he)
theorem zoy{s:AS}{mx u:Nat}{e:Ent}(h:ziO s mx e=some u):e.bs=[]∧e.d=some u∧mx≤u∧s.env u=none:=by
 unfold ziO at h
 split at h
 ·rename_i hb
  split at h
  ·rename_i v hd
   split at h
   ·rename_i h1 h2
    obtain rfl:=Option.some.inj h
    exact⟨hb,hd,Nat.le_of_ble_eq_true h1,h2⟩
   ·cases h
  ·cases h
 ·cases h
theorem zme{pt:List (List Nat)}{s:AS}{ents:List Ent}: ∀ (l:List Ent) (pre:List Ent) (mx:Nat),ents=pre++l→(∀ e u,e∈pre→e.d=some u→u <mx)→zta pt s ents pre.length mx l=true→
 ∀ j e,pre.length≤j→ents[j]? =some e→newE pt s ents j e=true∧ ∀ i ei,ents[i]? =some ei→i <j→pr pt j i=true∨ze8 pt s ents i ei e=true
 |[],pre,mx,he,_,_,j,e,hj,hje=>by
  have:=(List.getElem?_eq_some_iff.1 hje).1
  rw[he,List.append_nil]at this;omega
 |e0::l,pre,mx,he,hmx,h,j,e,hj,hje=>by
  simp only[zta,Bool.and_eq_true]at h
  obtain⟨h1,h2⟩:=h
  have hj0:ents[pre.length]? =some e0:=by rw[he,List.getElem?_append_right (Nat.le_refl _),Nat.sub_self];rfl
  have hnew:newE pt s ents pre.length e0=true:=by
   unfold zvl at h1
   split at h1
   ·rename_i hb;unfold newE;rw[hb];rfl
   ·exact h1
  have hpre: ∀ i ei,ents[i]? =some ei→i <pre.length→ei∈pre:=by
   intro i ei q hi
   rw[he,List.getElem?_append_left hi]at q
   exact List.mem_of_getElem? q
  have he':ents=(pre++[e0])++l:=by rw[he,List.append_assoc];rfl
  have hlen:(pre++[e0]).length=pre.length+1:=by simp
  cases hs:ziO s mx e0 with
  |some u=>
   rw[hs]at h2
   obtain⟨s1,s2,s3,s4⟩:=zoy hs
   by_cases hq:j=pre.length
   ·subst hq
    rw[hj0]at hje
    obtain rfl:=Option.some.inj hje
    refine⟨hnew,fun i ei hi hlt=>.inr ?_⟩
    have hno: ∀ e,e∈pre→isE u e=false:=by
     intro e he
     unfold isE
     cases hd:e.d with
     |none=>rfl
     |some d=>
      have:=hmx e d he hd
      cases hb:Nat.beq d u with
      |false=>exact hb
      |true=>have:=Nat.eq_of_beq_eq_true hb;omega
    unfold ze8
    rw[s2,s1]
    have h3:lkE (pr pt i) (hideF pt i s.env) u (ents.take i).reverse=none:=zom (zoL s4) fun e he2=>by
     have h4:e∈ents.take i:=List.mem_reverse.1 he2
     rw[he,List.take_append_of_le_length (by omega)]at h4
     exact hno e (List.mem_of_mem_take h4)
    simp only[rst,h3,hno ei (hpre i ei hi hlt)]
    rfl
   ·exact zme l (pre++[e0]) (u+1) he' (fun e v hm hv=>by
     rcases List.mem_append.1 hm with q|q
     ·have:=hmx e v q hv;omega
     ·rw[List.mem_singleton.1 q,s2]at hv
      have:=Option.some.inj hv;omega) (by rw[hlen];exact h2) j e (by omega) hje
  |none=>
   rw[hs]at h2
   simp only[Bool.and_eq_true]at h2
   by_cases hq:j=pre.length
   ·subst hq
    rw[hj0]at hje
    obtain rfl:=Option.some.inj hje
    refine⟨hnew,fun i ei hi hlt=>?_⟩
    have:=List.all_eq_true.1 h2.1 (ei,i) (by rw[List.mem_zipIdx_iff_getElem?];exact hi)
    simp only[Bool.or_eq_true,Bool.not_eq_true']at this
    rcases this with(q|q)|q
    ·have:Nat.blt i pre.length=true:=by simp[Nat.blt_eq,hlt]
     rw[this]at q;cases q
    ·exact .inl q
    ·exact .inr q
   ·exact zme l (pre++[e0]) (zu1 mx e0) he' (fun e v hm hv=>by
     unfold zu1
     rcases List.mem_append.1 hm with q|q
     ·have:=hmx e v q hv
      split
      ·exact Nat.lt_of_lt_of_le this (Nat.le_max_left _ _)
      ·exact this
     ·rw[List.mem_singleton.1 q]at hv
      rw[hv]
      exact Nat.lt_of_lt_of_le (Nat.lt_succ_self v) (Nat.le_max_right _ _)) (by rw[hlen];exact h2.2) j e (by omega) hje
theorem zqS{pt:List (List Nat)}{s:AS}{ents:List Ent}(h:zsF pt s ents=true):chk pt s ents=true:=by
 have h:=zme (pt:=pt) (s:=s) ents [] 0 rfl (fun e u q=>by cases q) h
 unfold chk
 rw[List.all_eq_true]
 rintro ⟨ei,i⟩ hi
 rw[List.mem_zipIdx_iff_getElem?]at hi
 simp only[Bool.and_eq_true]
 refine⟨(h i ei (Nat.zero_le _) hi).1,?_⟩
 rw[List.all_eq_true]
 rintro ⟨ej,j⟩ hj
 rw[List.mem_zipIdx_iff_getElem?]at hj
 simp only[Bool.or_eq_true,Bool.not_eq_true']
 by_cases hlt:i <j
 ·rcases(h j ej (Nat.zero_le _) hj).2 i ei hi hlt with q|q
  ·exact .inl (.inr q)
  ·exact .inr q
 ·refine .inl (.inl ?_)
  cases hb:Nat.blt i j with
  |false=>rfl
  |true=>rw[Nat.blt_eq]at hb;exact absurd hb hlt
end Go.Aw
namespace Go.Aw
open Go.RowKit
def lkT(row:List Nat)(f:Nat→Option AV)(u:Nat):List (Nat×Ent)→Option AV
 |[]=>f u
 |(j,e)::l=>match isE u e with
  |true=>match row.any (Nat.beq j)with
   |true=>some e.v
   |false=>none
  |false=>lkT row f u l
def lkTB(row:List Nat)(f:Bk)(b:Nat):List (Nat×Ent)→Option AB
 |[]=>f b
 |(j,e)::l=>match isB b e with
  |true=>match row.any (Nat.beq j)with
   |true=>setBs (fun _=>none) e.bs b
   |false=>none
  |false=>lkTB row f b l
def hidT(row:List Nat)(b:Nat):Bool:=row.any (Nat.beq (100000+b))
def zvt(row:List Nat)(f:Nat→Option AV)(u:Nat):Option AV:=match row.any (Nat.beq (1000000+u))with
 |true=>none
 |false=>f u
def stT(row:List Nat)(s:AS)(r:List (Nat×Ent)):AS:=⟨fun u=>lkT row (zvt row s.env) u r,fun b=>match hidT row b with
 |true=>none
 |false=>lkTB row s.blk b r⟩
def tagIt:List Ent→List (Nat×Ent)
 |[]=>[]
 |e::l=>(l.length,e)::tagIt l
def unT:List (Nat×Ent)→List Ent
 |[]=>[]
 |(_,e)::l=>e::unT l
def onT:List (Nat×Ent)→AS→AS
 |[],s=>s
 |(_,e)::l,s=>e.on (onT l s)
theorem zqp(l:List Ent):unT (tagIt l)=l:=by
 induction l with
 |nil=>rfl
 |cons e l ih=>simp[tagIt,unT,ih]
theorem zpb(s:AS): ∀ r:List (Nat×Ent),onT r s=onAll (unT r) s
 |[]=>rfl
 |(_,e)::l=>by simp only[onT,unT,onAll,zpb s l]
theorem zon{j:Nat}{e:Ent}{l:List (Nat×Ent)}(h:(j,e)::l=tagIt (unT ((j,e)::l))):j=(unT l).length∧l=tagIt (unT l):=by
 simp only[unT,tagIt,List.cons.injEq,Prod.mk.injEq,and_true]at h
 exact h
theorem zsg{pt:List (List Nat)}{i:Nat}{f:Nat→Option AV}{u:Nat}(hi:i≤100000): ∀ {r:List (Nat×Ent)},r=tagIt (unT r)→(unT r).length≤i→lkE (pr pt i) f u (unT r)=lkT (pt.getD i []) f u r
 |[],_,_=>rfl
 |(j,e)::l,h,hl=>by
  obtain⟨h1,h2⟩:=zon h
  simp only[unT,List.length_cons]at hl
  have hp:pr pt i (unT l).length=(pt.getD i []).any (Nat.beq j):=by
   unfold pr
   rw[←h1,show Nat.blt j 100000=true by rw[Nat.blt_eq];omega,Bool.and_true]
  simp only[unT,lkE,lkT,hp]
  cases isE u e with
  |true=>rfl
  |false=>exact zsg hi h2 (by omega)
theorem zqW{pt:List (List Nat)}{i:Nat}{f:Bk}{b:Nat}(hi:i≤100000): ∀ {r:List (Nat×Ent)},r=tagIt (unT r)→(unT r).length≤i→lkB (pr pt i) f b (unT r)=lkTB (pt.getD i []) f b r
 |[],_,_=>rfl
 |(j,e)::l,h,hl=>by
  obtain⟨h1,h2⟩:=zon h
  simp only[unT,List.length_cons]at hl
  have hp:pr pt i (unT l).length=(pt.getD i []).any (Nat.beq j):=by
   unfold pr
   rw[←h1,show Nat.blt j 100000=true by rw[Nat.blt_eq];omega,Bool.and_true]
  simp only[unT,lkB,lkTB,hp]
  cases isB b e with
  |true=>rfl
  |false=>exact zqW hi h2 (by omega)
theorem zsQ{pt:List (List Nat)}{s:AS}{r:List (Nat×Ent)}(h:r=tagIt (unT r))(hl:(unT r).length≤100000):rst pt s (unT r) (unT r).length=stT (pt.getD (unT r).length []) s r:=by
 unfold rst stT
 congr 1
 ·funext u;exact zsg (f:=hideF pt (unT r).length s.env) hl h (Nat.le_refl _)
 ·funext b
  show(match zuH pt (unT r).length b with|true=>none|false=>_)=(match hidT (pt.getD (unT r).length []) b with|true=>none|false=>_)
  rw[zqW hl h (Nat.le_refl _)];rfl
def ztw:Nat→List (Nat×List Nat)→Bool
 |_,[]=>true
 |k,(i,_)::l=>Nat.beq i k&&ztw (k+1) l
def zdQ:List (Nat×List Nat)→List (List Nat)
 |[]=>[]
 |(_,r)::l=>r::zdQ l
section
variable {P:Program} {ty:Ty} {w0:B0} {nt:Nat} {s s':AS} {ops:Array Oper} {l:List Oper} {o:Oper} {C:Exit→AS→Prop} {pt:List (List Nat)} {tb:List (Nat×List Nat)} {r:List (Nat×Ent)} {i:Nat} {row:List Nat} {F:List (Nat×Ent)→Prop}
 {d:Option Nat} {t:TypeId} {pos:String} {af:Array Edge}
def WE(P:Program)(w0:B0)(nt:Nat)(ops:Array Oper)(pt:List (List Nat))(s:AS)(tb:List (Nat×List Nat))(r:List (Nat×Ent))(l:List Oper)(F:List (Nat×Ent)→Prop):Prop:=
 r=tagIt (unT r)→ztw (unT r).length tb=true→zdQ tb=pt.drop (unT r).length→(unT r).length+l.length≤100000→WD P w0 nt ops pt s (unT r) l fun es=>F (tagIt es)
theorem zS(h:F r):WE P w0 nt ops pt s tb r [] F:=fun h1 _ _ _=>zu7 (by rw[←h1];exact h)
theorem ztj(h1:zdQ ((i,row)::tb)=pt.drop (unT r).length):pt.getD (unT r).length []=row:=by
 have:(pt.drop (unT r).length)[0]? =some row:=by rw[←h1];rfl
 rw[List.getElem?_drop,Nat.add_zero]at this
 rw[List.getD_eq_getElem?_getD,this];rfl
theorem zu{v:AV}{bs:List (Nat×AB)}(h:zqt P w0 nt ops o (stT row s r) v bs)(q:WE P w0 nt ops pt s tb ((i,⟨o.dst,v,bs⟩)::r) l F):WE P w0 nt ops pt s ((i,row)::tb) r (o::l) F:=by
 intro h1 h2 h3 h4
 simp only[ztw,Bool.and_eq_true]at h2
 have hi:=Nat.eq_of_beq_eq_true h2.1
 simp only[List.length_cons]at h4
 refine ztJ (v:=v) (bs:=bs) ?_ (q ?_ ?_ ?_ ?_)
 ·rw[zsQ h1 (by omega),ztj h3];exact h
 ·simp only[unT,tagIt, ←h1,hi]
 ·simp only[unT,List.length_cons];exact h2.2
 ·simp only[unT,List.length_cons]
  have:zdQ tb=(zdQ ((i,row)::tb)).drop 1:=rfl
  rw[this,h3,List.drop_drop]
 ·simp only[unT,List.length_cons];omega
theorem zbc{v:AV}{bs:List (Nat×AB)}(hg:o.guard=none)(h:MStep P w0 nt o (stT row s r) v bs)(q:WE P w0 nt ops pt s tb ((i,⟨o.dst,v,bs⟩)::r) l F):WE P w0 nt ops pt s ((i,row)::tb) r (o::l) F:=zu (.inl ⟨hg,h⟩) q
theorem zaG{op:Op}{j u:Nat}{b:Bool}(hj:(ops[j]?).bind (·.dst)=some u)(ht:(stT row s r).env u=some (.bool b))(q:WE P w0 nt ops pt s ((i,row)::tb) r (⟨d,op,t,pos,af,none⟩::l) F):
 WE P w0 nt ops pt s ((i,row)::tb) r (⟨d,op,t,pos,af,some (j,b)⟩::l) F:=by
 intro h1 h2 h3 h4
 simp only[List.length_cons]at h4
 have ht':(rst pt s (unT r) (unT r).length).env u=some (.bool b):=by rw[zsQ h1 (by omega),ztj h3];exact ht
 exact zuI hj ht' (q h1 h2 h3 (by simpa using h4))
theorem zpz{op:Op}{j u:Nat}{b:Bool}(hj:(ops[j]?).bind (·.dst)=some u)(ht:(stT row s r).env u=some (.bool (!b))∨(stT row s r).env u=some (.tup []))(hd:zt nt d=true)
 (q:WE P w0 nt ops pt s tb ((i,⟨d,.tup [],[]⟩)::r) l F):WE P w0 nt ops pt s ((i,row)::tb) r (⟨d,op,t,pos,af,some (j,b)⟩::l) F:=
 zu (o:=⟨d,op,t,pos,af,some (j,b)⟩) (.inr ⟨j,b,u,rfl,hj,.inr ⟨ht,rfl,rfl,hd⟩⟩) q
theorem zau{op:Op}{j u:Nat}(hj:(ops[j]?).bind (·.dst)=some u)(ht:(stT row s r).env u=some (.bool false))(hd:zt nt d=true)
 (q:WE P w0 nt ops pt s tb ((i,⟨d,.tup [],[]⟩)::r) l F):WE P w0 nt ops pt s ((i,row)::tb) r (⟨d,op,t,pos,af,some (j,true)⟩::l) F:=zpz hj (.inl ht) hd q
theorem zav{op:Op}{j u:Nat}(hj:(ops[j]?).bind (·.dst)=some u)(ht:(stT row s r).env u=some (.bool true))(hd:zt nt d=true)
 (q:WE P w0 nt ops pt s tb ((i,⟨d,.tup [],[]⟩)::r) l F):WE P w0 nt ops pt s ((i,row)::tb) r (⟨d,op,t,pos,af,some (j,false)⟩::l) F:=zpz hj (.inl ht) hd q
theorem zaw{op:Op}{j u:Nat}{b:Bool}(hj:(ops[j]?).bind (·.dst)=some u)(ht:(stT row s r).env u=some (.tup []))(hd:zt nt d=true)
 (q:WE P w0 nt ops pt s tb ((i,⟨d,.tup [],[]⟩)::r) l F):WE P w0 nt ops pt s ((i,row)::tb) r (⟨d,op,t,pos,af,some (j,b)⟩::l) F:=zpz hj (.inr ht) hd q
theorem zaC{xt yt:TypeId}{op:BinOp}{x y:Operand}{k:IntKind}{a b:Int}{p:Prop}(hx:evO (stT row s r) x=some (.int k a))(hy:evO (stT row s r) y=some (.int k b))(hp:ztO op a b=some p)(hd:zt nt d=true)
 (h1:p→WE P w0 nt ops pt s tb ((i,⟨d,.bool true,[]⟩)::r) l F) (h2: ¬p→WE P w0 nt ops pt s tb ((i,⟨d,.bool false,[]⟩)::r) l F):WE P w0 nt ops pt s ((i,row)::tb) r (⟨d,.binOp op xt x y yt,t,pos,af,none⟩::l) F:=by
 by_cases h:p
 ·exact zbc rfl (fun t2 hle _=>zg2 (zV hle hx) (zV hle hy) ((ziM hp).1 h) hd) (h1 h)
 ·exact zbc rfl (fun t2 hle _=>zg2 (zV hle hx) (zV hle hy) ((ziM hp).2 h) hd) (h2 h)
theorem zad{f:Nat}{as:Array Operand}{ts:Array TypeId}{xs:List AV}{res:AV}{e:Ef}(id:Nat)(ha:za4 (stT row s r) as.toList=some xs)(hc:FC P f xs res)(ht:zhh id res=some e)
 (hid:e.2.all (fun p=>((stT row s r).blk p.1).isNone)=true) (hd:zt nt d=true) (q:WE P w0 nt ops pt s tb ((i,⟨d,e.1,e.2⟩)::r) l F):
 WE P w0 nt ops pt s ((i,row)::tb) r (⟨d,.call {callee:=.value (.func f),args:=as,argTypes:=ts},t,pos,af,none⟩::l) F:=zbc rfl (zar id ha hc ht hid hd) q
theorem zan{f:Nat}{as:Array Operand}{ts:Array TypeId}{xs:List AV}{b:Bool}(ha:za4 (stT row s r) as.toList=some xs)(hc:FC P f xs (.bool b))(hd:zt nt d=true)
 (h1:b=true→WE P w0 nt ops pt s tb ((i,⟨d,.bool true,[]⟩)::r) l F) (h2:b=false→WE P w0 nt ops pt s tb ((i,⟨d,.bool false,[]⟩)::r) l F):
 WE P w0 nt ops pt s ((i,row)::tb) r (⟨d,.call {callee:=.value (.func f),args:=as,argTypes:=ts},t,pos,af,none⟩::l) F:=by
 refine zad 0 ha hc rfl rfl hd ?_
 cases b
 ·exact h2 rfl
 ·exact h1 rfl
theorem zsY{G G':List Ent→Prop}(hG: ∀ es,G es→G' es){r:List Ent}(h:WD P w0 nt ops pt s r l G):WD P w0 nt ops pt s r l G':=by
 obtain⟨es,h1,h2,h3⟩:=h
 exact⟨es,h1,h2,hG _ h3⟩
theorem zD(tb:List (Nat×List Nat)){id:Nat}(hm:P.follows .mixedOrders=true)(hpt:(ztw 0 tb&&zhM (zdQ tb) 0 ops.toList&&Nat.ble ops.toList.length 100000)=true)
 (h:WE P w0 nt ops (zdQ tb) s tb [] ops.toList (fun r=>zsF (zdQ tb) s (unT r).reverse=true∧C .normal (onT r s))):AC P w0 nt (.region id ops true) s C:=by
 simp only[Bool.and_eq_true]at hpt
 refine ztk (zdQ tb) hm hpt.1.2 ?_
 refine zsY (fun es q=>?_) (h rfl hpt.1.1 (by simp[unT]) (by simp only[unT,List.length_nil,Nat.zero_add];exact Nat.le_of_ble_eq_true hpt.2))
 have q:zsF (zdQ tb) s (unT (tagIt es)).reverse=true∧C .normal (onT (tagIt es) s):=q
 rw[zpb,zqp]at q
 exact⟨zqS q.1,q.2⟩
end
end Go.Aw
namespace Go.Aw
open Go.RowKit
theorem zhH{P:Program}{w0:B0}{nt:Nat}{id:Nat}{ops:Array Oper}{b:Bool}{s:AS}{C:Exit→AS→Prop}(h:AC P w0 nt (.region id ops b) s C):AC P w0 nt (.region id ops b) s C:=h
section
variable {P:Program} {ty:Ty} {w0:B0} {nt:Nat} {s:AS} {d:Option Nat} {t:TypeId} {pos:String} {af:Array Edge} {g:Option (Nat×Bool)}
def zsV(P:Program)(u:TypeId):Bool:=match P.underlying u with
 |some (.slice _)=>true
 |_=>false
theorem zsI{xt yt:TypeId}{x:Operand}{es:Nat}{r:List AV}{rows:List (List AV)}{full:Bool}(hx:evO s x=some (.lst es (r::rows) full))(hu:zsV P xt=true)(hd:zt nt d=true):
 MStep P w0 nt ⟨d,.binOp .eql xt x (.const (.slice none 0 0)) yt,t,pos,af,g⟩ s (.bool false) []:=by
 intro t2 hle _
 refine zaE hd fun β S a w hs=>?_
 have h1:=zah hs (zV hle hx)
 generalize e1:a.eval x=cx at h1
 have e2:a.eval (.const (.slice none 0 0))=.slice none 0 0:=rfl
 obtain⟨e,hu'⟩: ∃ e,P.underlying xt=some (.slice e):=by
  unfold zsV at hu
  split at hu
  ·rename_i h;exact⟨_,h⟩
  ·cases hu
 cases h1
 rename_i b o n c cells h1 h2 h3 h4 h5 h6
 have hg:(eqGuard .eql xt x (.const (.slice none 0 0)) (.slice (some ⟨b,o,none⟩) n c) (.slice none 0 0)).run P w=.ok () w:=by
  unfold eqGuard
  simp
 have heq:(Op.equal xt (.slice (some ⟨b,o,none⟩) n c) (.slice none 0 0)).run P w=.ok false w:=by
  show(Op.equalIn (9999+1) xt (.slice (some ⟨b,o,none⟩) n c) (.slice none 0 0)).run P w=_
  rw[Op.equalIn]
  simp only[Sem.run_bind,run_underlying hu',Result.andThen_ok,Sem.run_pure]
 exact⟨.bool false,by simp[execOp,e1,e2,hg,binOp,heq],.bool _⟩
end
end Go.Aw
namespace Go.Aw
open Go.RowKit
section
variable {P:Program} {ty:Ty} {w0:B0} {nt:Nat} {s:AS} {d:Option Nat} {t:TypeId} {pos:String} {af:Array Edge} {g:Option (Nat×Bool)}
end
end Go.Aw
namespace Go.Aw
open Go.RowKit
def zpj(blk:Bk):AV→Option AV
 | .ptr id off=>match blk id with
   |some (.rob cells)=>some (.eptr cells off)
   |some _=>some (.ptr id off)
   |none=>none
 |x=>argV blk x
def zfn(s:AS):List Operand→Option (List AV)
 |[]=>some []
 |x::l=>match evO s x with
  |some v=>match zpj s.blk v,zfn s l with
   |some y,some r=>some (y::r)
   |_,_=>none
  |none=>none
theorem ztK{w0:B0}{w:World}{β:Bt}{S:St}{blk:Bk}(h:HR w0 β S blk w){v:Value}{x y:AV}(hv:VR β S w v x)(ha:zpj blk x=some y):VR β S w v y:=by
 by_cases e: ∃ id off,x=.ptr id off
 ·obtain⟨id,off,rfl⟩:=e
  simp only[zpj]at ha
  split at ha
  ·rename_i cells hk
   obtain rfl:=Option.some.inj ha
   exact VR.up (zcb h hv (by simp only[argV,argS,hk]))
  ·obtain rfl:=Option.some.inj ha;exact hv
  ·cases ha
 ·exact VR.up (zcb h hv (by cases x <;>first|exact ha|exact absurd ⟨_,_,rfl⟩ e))
theorem zhY{w0:B0}{nt:Nat}{s:AS}{w:World}{β:Bt}{S:St}{a:Act}(hs:SR w0 nt β S s a w): ∀ {l:List Operand} {xs:List AV},zfn s l=some xs→l.length=xs.length∧
 ∀ j,j <xs.length→VR β S w ((l.map a.eval).getD j undef) (xs.getD j .any)
 |[],xs,h=>by obtain rfl:=Option.some.inj h;exact⟨rfl,fun j hj=>by simp at hj⟩
 |x::l,xs,h=>by
  simp only[zfn]at h
  split at h
  ·rename_i v hv
   split at h
   ·rename_i y r e1 e2
    obtain rfl:=Option.some.inj h
    obtain⟨q1,q2⟩:=zhY hs e2
    refine⟨by simp[q1],fun j hj=>?_⟩
    cases j with
    |zero=>simpa using ztK hs.hh (zah hs hv) e1
    |succ j=>simpa using q2 j (by simpa using hj)
   ·cases h
  ·cases h
theorem zrh{s t':AS}(h:s.le t'){p q:AV}(hb:zpj s.blk p=some q):zpj t'.blk p=some q:=by
 by_cases e: ∃ id off,p=.ptr id off
 ·obtain⟨id,off,rfl⟩:=e
  simp only[zpj]at hb⊢
  split at hb
  ·rename_i cells hk;rw[h.2 _ _ hk];exact hb
  ·rename_i k hk hn
   rw[h.2 _ _ hn]
   cases k <;>first|exact hb|exact absurd rfl (hk _)
  ·cases hb
 ·have e1: ∀ b,zpj b p=argV b p:=fun b=>by cases p <;>first|rfl|exact absurd ⟨_,_,rfl⟩ e
  rw[e1]at hb⊢;exact zeC h hb
theorem zfD{s t':AS}(h:s.le t'): ∀ {l:List Operand} {xs:List AV},zfn s l=some xs→zfn t' l=some xs
 |[],xs,hb=>hb
 |x::l,xs,hb=>by
  simp only[zfn]at hb⊢
  split at hb
  ·rename_i v hv
   rw[zV h hv]
   simp only
   split at hb
   ·rename_i y r e1 e2
    rw[zrh h e1,zfD h e2];exact hb
   ·cases hb
  ·cases hb
structure MO (P:Program) (f:Nat) (args:List AV) (k:AB) (e es:Nat) (rows:List (List AV)) (wr:Bool) (k2:AB):Prop where
 lend:lendable k2=true
 pc: ∀ (w:World) (S0:St) (ca:Array Value) (B:BI),(∀ b o,S0 b o→b <w.heap.size)→ca.size=args.length→(∀ j,j <args.length→VR (lentB B) S0 w (ca.getD j undef) (args.getD j .any))→BR nb S0 w B (pinAB (some B) k)→
  Calls P f ca w fun en w'=> ∃ v S' b,en=.returned v∧BelowP (butL w B.b) w w'∧(∀ b o,S0 b o→S' b o)∧(∀ b o,S' b o→b <w.heap.size→S0 b o)∧(∀ b o,S' b o→b <w'.heap.size)∧
   BR nb S' w' B (pinAB (some B) k2)∧OwnV S' w w' v e es rows wr b
 fn: ∃ fn,P.funcs[f]? =some fn∧fn.body.isNone=false∧(fn.name=="runtime.NumGoroutine")=false
section
variable {P:Program} {ty:Ty} {w0:B0} {nt:Nat} {s s':AS} {ops:Array Oper} {l:List Oper} {K:AS→Prop} {d:Option Nat} {t:TypeId} {pos:String} {af:Array Edge} {g:Option (Nat×Bool)}
theorem za8{b:Bool}{id:Nat}{opa:Array Oper}{C:Exit→AS→Prop}(h:AC P w0 nt (.region id opa b) s C):AC P w0 nt (.region id opa b) s C:=h
theorem znY{f:Nat}{fi ca:Array Operand}{xi xa:List AV}(h1:zfn s fi.toList=some xi)(h2:zfn s ca.toList=some xa)(hd:zt nt d=true):
 MStep P w0 nt ⟨d,.makeFunc (.func f) fi ca,t,pos,af,g⟩ s (.fn (.func f) xi xa) []:=by
 intro t2 hle _
 refine zaE hd fun β S a w hs=>?_
 obtain⟨q1,q2⟩:=zhY hs (zfD hle h1)
 obtain⟨r1,r2⟩:=zhY hs (zfD hle h2)
 refine⟨.func (.func f) (fi.map a.eval) (ca.map a.eval),?_,.fn _ _ _ _ _ (by simpa using q1) (by simpa using r1) (fun j hj=>?_) (fun j hj=>?_)⟩
 ·simp[execOp,Instr.makeFunc]
 ·have:=q2 j hj
  rw[←zag,Array.toList_map];exact this
 ·have:=r2 j hj
  rw[←zag,Array.toList_map];exact this
theorem zq7{f id0:Nat}{k k1 k2:AB}{x:Operand}{as:Array Operand}{ts:Array TypeId}{xi xa xi' xa' xs:List AV}{res:AV}(hk:s.blk id0=some k)(hcs:zbQ s.blk k=some k1)(hx:evO s x=some (.fn (.func f) xi xa))(hxi:ze4 id0 xi=some xi')(hxa:ze4 id0 xa=some xa')
 (ha:zcs s id0 as.toList=some xs) (hc:MC P f (xi'++xs++xa') k1 res k2) (hd:zt nt d=true):
 OkOp P w0 nt ⟨d,.call {callee:=.value x,args:=as,argTypes:=ts},t,pos,af,g⟩ s ((s.setB id0 (pinAB (zcE k) k2)).put d res):=by
 intro β S a w next Q hs hn
 obtain⟨fn,hf,hbody,hname⟩:=hc.fn
 obtain⟨bi,hbi,hbr,hold⟩:=hs.hh.hblk id0 _ hk
 obtain⟨l1,l2⟩:=zda hcs
 obtain⟨e1,e2⟩:=zeS hs hbi ha
 have hxv:=zah hs hx
 generalize ex:a.eval x=cx at hxv
 cases hxv
 rename_i fi ca h1 h3 h2 h4
 have hr:(execOp a.eval ⟨d,.call {callee:=.value x,args:=as,argTypes:=ts},t,pos,af,g⟩).run P w=.ok (.enter f (fi++as.map a.eval++ca)) w:=by
  have hcf:(callFunc f (fi++as.map a.eval++ca)).run P w=.ok (.enter f (fi++as.map a.eval++ca)) w:=by
   unfold callFunc
   rw[Sem.run_bind,run_program,Result.andThen_ok]
   simp only[hf,hname,hbody,Bool.false_eq_true,if_false,Sem.run_pure]
  simp[execOp,resolve,ex,Deferred.ofValue,invoke,hcf, -Array.append_assoc]
 unfold Oper.wp
 rw[hr]
 simp only[Oper.upon]
 obtain⟨i1,i2⟩:=zex hbi (cv:=fun j=>fi.getD j undef) hxi h3
 obtain⟨i3,i4⟩:=zex hbi (cv:=fun j=>ca.getD j undef) hxa h4
 obtain⟨g1,g2⟩:=zk5 (S:=S) (w:=w) (β:=lentB bi) (a:=fi) (b:=as.map a.eval) (c:=ca) (x:=xi') (y:=xs) (z:=xa') (by omega) (by simpa using e1) (by omega)
  i2 (fun j hj=>by
   have:=e2 j hj
   rw[←zag,Array.toList_map];exact this) i4
 refine(hc.pc w S _ bi hs.hh.hlt g1 g2 ((zhl hs.hh hbr hcs).repin (fun B q=>Option.some.inj q))).mono ?_
 rintro e w' ⟨v,S',rfl,hB,h1,h2,h3,hb2,hv⟩
 obtain⟨r1,r2⟩:=hs.hh.lent (k':=pinAB (zcE k) k2) hk (zco l1) hbi (zcp l1 hbr) hB h1 h2 h3 (hb2.repin hbr.pinned).upN
 have hs2:SR w0 nt β S' (s.setB id0 (pinAB (zcE k) k2)) a w':=⟨r1,fun u z q=>r2 (hs.henv u z q),hs.hsize,hs.hdefers⟩
 exact hn _ _ _ _ (hs2.put hd (VR.up hv))
theorem zsP{f:Nat}{k k1 k2 k3:AB}{x:Operand}{as:Array Operand}{ts:Array TypeId}{xi xa xi' xa' xs:List AV}{res:AV}(id0:Nat)(hx:evO s x=some (.fn (.func f) xi xa))(hk:s.blk id0=some k)(hcs:zbQ s.blk k=some k1)(hxi:ze4 id0 xi=some xi')(hxa:ze4 id0 xa=some xa')
 (ha:zcs s id0 as.toList=some xs) (hc:MC P f (xi'++xs++xa') k1 res k2) (h3:pinAB (zcE k) k2=k3) (hd:zt nt d=true):
 MStep P w0 nt ⟨d,.call {callee:=.value x,args:=as,argTypes:=ts},t,pos,af,g⟩ s res [(id0,k3)]:=by
 subst h3
 exact fun _ hle _=>zq7 (hle.2 _ _ hk) (zhI hle hcs) (zV hle hx) hxi hxa (zdB hle ha) hc hd
theorem zrQ{f id0 id:Nat}{k k1 k2:AB}{as:Array Operand}{ts:Array TypeId}{xs:List AV}{e es:Nat}{rows:List (List AV)}{wr:Bool}(hk:s.blk id0=some k)(hcs:zbQ s.blk k=some k1)
 (ha:zcs s id0 as.toList=some xs) (hc:MO P f xs k1 e es rows wr k2) (hid:s.blk id=none) (hd:zt nt d=true):
 OkOp P w0 nt ⟨d,.call {callee:=.value (.func f),args:=as,argTypes:=ts},t,pos,af,g⟩ s (((s.setB id0 (pinAB (zcE k) k2)).setB id (.arr e es rows wr)).put d (.arr id)):=by
 intro β S a w next Q hs hn
 obtain⟨fn,hf,hbody,hname⟩:=hc.fn
 obtain⟨bi,hbi,hbr,hold⟩:=hs.hh.hblk id0 _ hk
 obtain⟨l1,l2⟩:=zda hcs
 obtain⟨e1,e2⟩:=zeS hs hbi ha
 have hr:(execOp a.eval ⟨d,.call {callee:=.value (.func f),args:=as,argTypes:=ts},t,pos,af,g⟩).run P w=.ok (.enter f (as.map a.eval)) w:=by
  have hcf:(callFunc f (as.map a.eval)).run P w=.ok (.enter f (as.map a.eval)) w:=by
   unfold callFunc
   rw[Sem.run_bind,run_program,Result.andThen_ok]
   simp only[hf,hname,hbody,Bool.false_eq_true,if_false,Sem.run_pure]
  simp[execOp,resolve,Act.eval,Deferred.ofValue,invoke,hcf]
 unfold Oper.wp
 rw[hr]
 simp only[Oper.upon]
 refine(hc.pc w S (as.map a.eval) bi hs.hh.hlt (by simpa using e1) (fun j hj=>by
  have:=e2 j hj
  rw[←zag,Array.toList_map];exact this) ((zhl hs.hh hbr hcs).repin (fun B q=>Option.some.inj q))).mono ?_
 rintro en w' ⟨v,S',b,rfl,hB,h1,h2,h3,hb2,bo,_,rfl,hge,hbo⟩
 obtain⟨r1,r2⟩:=hs.hh.lent (k':=pinAB (zcE k) k2) hk (zco l1) hbi (zcp l1 hbr) hB h1 h2 h3 (hb2.repin hbr.pinned).upN
 have hne:id≠id0:=fun q=>by subst q;rw[hid]at hk;cases hk
 have hgs:w0.heap.size≤w.heap.size:=hs.hh.hbelow.size
 obtain⟨q1,q2⟩:=r1.addB (id:=id) (by rw[zJ _ _ hne];exact hid) hbo (fun ho=>by have:=w0.hlt0 _ ho;have:w0.w.heap.size≤w.heap.size:=hgs;omega)
  (fun i bj kj p q lv=>by
    by_cases ei:i=id0
    ·subst ei
     rw[hbi]at p
     obtain rfl:=Option.some.inj p
     have:=hbr.lt (zco l1)
     omega
    ·rw[zJ _ _ ei]at q
     obtain⟨bi2,z1,z2,_⟩:=hs.hh.hblk i kj q
     rw[p]at z1
     obtain rfl:=Option.some.inj z1
     have:=z2.lt lv
     omega)
 have hs2:SR w0 nt _ S' ((s.setB id0 (pinAB (zcE k) k2)).setB id (.arr e es rows wr)) a w':=⟨q1,fun u z q=>q2 (r2 (hs.henv u z q)),hs.hsize,hs.hdefers⟩
 exact hn _ _ _ _ (hs2.put hd (.arr id bo (zR _ _ _)))
theorem zm1{f:Nat}{k k1 k2 k3:AB}{as:Array Operand}{ts:Array TypeId}{xs:List AV}{e es:Nat}{rows:List (List AV)}{wr:Bool}(id0 id:Nat)(hk:s.blk id0=some k)(hcs:zbQ s.blk k=some k1)
 (ha:zcs s id0 as.toList=some xs) (hc:MO P f xs k1 e es rows wr k2) (h3:pinAB (zcE k) k2=k3) (hid:(s.blk id).isNone=true) (hd:zt nt d=true):
 MStep P w0 nt ⟨d,.call {callee:=.value (.func f),args:=as,argTypes:=ts},t,pos,af,g⟩ s (.arr id) [(id0,k3),(id,.arr e es rows wr)]:=by
 subst h3
 intro t2 hle hfr
 exact zrQ (hle.2 _ _ hk) (zhI hle hcs) (zdB hle ha) hc (hfr (id,.arr e es rows wr) (.tail _ (.head _)) (Option.isNone_iff_eq_none.1 hid)) hd
theorem zg1{rs:List ResultVar}{vs:List AV}{x res:AV}{B:BI}(id:Nat){k k1 k2:AB}(hk:s'.blk id=some k)(hp1:zcE k=some B)(ha:zbQ s'.blk k=some k1)(h:resL ty s' rs=some vs)(hp:packL s'.blk vs=some x)(hx:Wk x res)(hc:WkB k1 k2):
 zlk ty rs res B k2 .ret s':=⟨.inl rfl,_,.refl _,⟨id,k,k1,hk,hp1,ha,hc⟩,vs,h,x,hp,hx⟩
def zs8(ty:Ty)(rs:List ResultVar)(e es:Nat)(rows:List (List AV))(wr:Bool)(B:BI)(k2:AB)(ex:Exit)(s':AS):Prop:=
 (ex=.ret∨ex=.normal)∧ ∃ s2,Less s' s2∧(∃ id k k1,s2.blk id=some k∧zcE k=some B∧zbQ s2.blk k=some k1∧WkB k1 k2)∧ ∃ id,resL ty s2 rs=some [.arr id]∧s2.blk id=some (.arr e es rows wr)
theorem zre{rs:List ResultVar}{e es:Nat}{rows:List (List AV)}{wr:Bool}{B:BI}(id id2:Nat){k k1 k2:AB}(hk:s'.blk id=some k)(hp1:zcE k=some B)(ha:zbQ s'.blk k=some k1)(h:resL ty s' rs=some [.arr id2])(hp:s'.blk id2=some (.arr e es rows wr))(hc:WkB k1 k2):
 zs8 ty rs e es rows wr B k2 .ret s':=⟨.inl rfl,_,.refl _,⟨id,k,k1,hk,hp1,ha,hc⟩,id2,h,hp⟩
theorem zsE(hty:TyOK P ty){f:Nat}{fn:Func}{c:Code}{args:List AV}{k:AB}{e es:Nat}{rows:List (List AV)}{wr:Bool}{k2:AB}(hf:P.funcs[f]? =some fn)(hb:fn.body=some c)(hname:(fn.name=="runtime.NumGoroutine")=false)(hn:Nat.ble args.length fn.ntmps=true)
 (hl:lendable k=true) (hl2:lendable k2=true) (h: ∀ (w0:B0) (B:BI),AC P w0 fn.ntmps c ⟨fun t=>args[t]?,bkOf [(0,pinAB (some B) k)]⟩ (zs8 ty fn.results.toList e es rows wr B k2)):MO P f args k e es rows wr k2:=by
 refine⟨hl2,?_,fn,hf,by rw[hb];rfl,hname⟩
 intro w S0 ca B hS hsz hca hbox
 have hn:=Nat.le_of_ble_eq_true hn
 have hl':lendable (pinAB (some B) k)=true:=by rw[zdy];exact hl
 have hb0: ∀ {id k'},bkOf [(0,pinAB (some B) k)] id=some k'→id=0∧k'=pinAB (some B) k:=by
  intro id k q
  unfold bkOf at q
  split at q
  ·rename_i e;exact⟨Nat.eq_of_beq_eq_true e,(Option.some.inj q).symm⟩
  ·cases q
 have hβ0: ∀ {id bi},lentB B id=some bi→id=0∧bi=B:=by
  intro id bi q
  by_cases e:id=0
  ·subst e
   have:some B=some bi:=(zR nb 0 _).symm.trans q
   exact⟨rfl,(Option.some.inj this).symm⟩
  ·have:nb id=some bi:=(zJ nb _ e).symm.trans q
   cases this
 refine calls_of_wp hf hb (h ⟨w,S0,butL w B.b,fun _ h=>h.1⟩ B (lentB B) S0 _ _ _ ⟨⟨?_,?_,?_,fun b o q=>q,fun b o q _=>q,hS,BelowP.refl _ _⟩,?_,?_,rfl⟩ ?_)
 ·intro id k q
  obtain⟨rfl,rfl⟩:=hb0 q
  exact⟨_,zR _ _ _,hbox.upN,fun _ ho=>ho.2 rfl⟩
 ·intro id bi q
  obtain⟨rfl,_⟩:=hβ0 q
  exact⟨_,rfl⟩
 ·intro i j bi bj ki kj hne q1 _ q2
  exact absurd ((hb0 q1).1.trans (hb0 q2).1.symm) hne
 ·intro t x hx
  have hlt:t <args.length:=(List.getElem?_eq_some_iff.1 hx).1
  have:=hca t hlt
  have hx':args[t]? =some x:=hx
  have e1:args.getD t .any=x:=by rw[List.getD_eq_getElem?_getD,hx'];rfl
  have e2:(ca++Array.replicate (fn.ntmps-ca.size) undef).getD t undef=ca.getD t undef:=by
   simp only[Array.getD_eq_getD_getElem?]
   rw[Array.getElem?_append_left (by omega)]
  rw[e1]at this
  simp only[e2]
  exact this
 ·simp only[Array.size_append,Array.size_replicate];omega
 ·intro ex β' S' a' w' s' hk hs'
  obtain⟨he,s2,hl2',⟨id,kk,k1,hk1,hpin,hk2,hk3⟩,id2,h1,h2⟩:=hk
  obtain⟨β',S',hs'⟩:=hl2' _ _ _ _ _ _ hs'
  obtain⟨us,h3,h4,h5⟩:=zhn hty hs' h1
  obtain⟨u,rfl⟩: ∃ u,us=[u]:=List.length_eq_one_iff.1 (by simpa using h4)
  have hres:(results fn a'.tmps).run P w'=.ok u w':=by
   rw[zeT,Array.mapM_eq_mapM_toList]
   simp only[Sem.run_bind,Sem.run_map,h3,Result.andThen_ok,Sem.run_pure]
   rfl
  have hbr:BR nb S' w' B (pinAB (some B) k2)∧β' id=some B∧kk.live=true:=by
   obtain⟨bi,g1,g2,_⟩:=hs'.hh.hblk id _ hk1
   obtain rfl:=g2.pinned _ hpin
   have:=zhl hs'.hh g2 hk2
   rw[hpin]at this
   exact⟨hk3.pin.ok this,g1,zco (zda hk2).1⟩
  have hfree:=zcp (by rw[zdy];exact hl2) hbr.1
  have hown: ∃ b,OwnV S' w w' u e es rows wr b:=by
   have hu:VR β' S' w' u (.arr id2):=by simpa using h5 0 (by simp)
   cases hu with
   |arr _ bi hbi=>
    obtain⟨bi2,g1,g2,g3⟩:=hs'.hh.hblk id2 _ h2
    rw[hbi]at g1
    obtain rfl:=Option.some.inj g1
    have hne:id2≠id:=fun q=>by subst q;rw[h2]at hk1;obtain rfl:=Option.some.inj hk1;cases hpin
    have hdb:=hs'.hh.hinj id2 id bi B _ _ hne h2 rfl hk1 hbr.2.2 hbi hbr.2.1
    refine⟨bi.b,bi,rfl,rfl,Nat.le_of_not_lt fun hlt=>g3 rfl ⟨hlt,hdb⟩,?_⟩
    exact g2
  obtain⟨b,hown⟩:=hown
  have hpost:a'.defers=[]∧ ∃ v,(results fn a'.tmps).run P w'=.ok v w'∧ ∃ v2 S2 b,Ending.returned v=Ending.returned v2∧BelowP (butL w B.b) w w'∧(∀ b o,S0 b o→S2 b o)∧(∀ b o,S2 b o→b <w.heap.size→S0 b o)∧(∀ b o,S2 b o→b <w'.heap.size)∧
   BR nb S2 w' B (pinAB (some B) k2)∧OwnV S2 w w' v2 e es rows wr b:=
   ⟨hs'.hdefers,_,hres,_,S',b,rfl,hs'.hh.hbelow,hs'.hh.hold,fun b o q hlt=>hs'.hh.hnew b o q ⟨hlt,fun e=>by subst e;exact hfree o q⟩,hs'.hh.hlt,hbr.1,hown⟩
  rcases he with rfl|rfl
  ·exact hpost
  ·exact hpost
end
end Go.Aw
namespace Go.Aw
open Go.RowKit
section
variable {s:AS}
theorem zq3(u id:Nat){pin:Option BI}{e es:Nat}{rows:List (List AV)}{wr:Bool}(hu:s.env u=some (.arr id))(hk:s.blk id=some (.ar pin e es rows wr)):Less s ⟨upd s.env u (.lst es rows false),upd s.blk id .gone⟩:=by
 refine(zaF id hk).trans ?_
 intro w0 nt β S a w hs
 have hk2:(s.setB id (.ar pin e es rows false)).blk id=some (.ar pin e es rows false):=zR _ _ _
 refine⟨β,S,⟨?_,?_,?_,hs.hh.hold,hs.hh.hnew,hs.hh.hlt,hs.hh.hbelow⟩,?_,hs.hsize,hs.hdefers⟩
 ·intro i k q
  have q:upd s.blk id .gone i=some k:=q
  by_cases ei:i=id
  ·subst ei
   obtain rfl:AB.gone=k:=by have:some AB.gone=some k:=(zR s.blk i AB.gone).symm.trans q;exact Option.some.inj this
   obtain⟨bi,h1,_,_⟩:=hs.hh.hblk i _ hk2
   exact⟨bi,h1,trivial,fun q=>by cases q⟩
  ·exact hs.hh.hblk i k (by rw[show(s.setB id (.ar pin e es rows false)).blk i=s.blk i from zJ _ _ ei];rw[zJ _ _ ei]at q;exact q)
 ·intro i bi q
  by_cases ei:i=id
  ·subst ei;exact⟨_,zR _ _ _⟩
  ·obtain⟨k,hk⟩:=hs.hh.hdom i bi q
   exact⟨k,by rw[show(s.setB id (.ar pin e es rows false)).blk i=s.blk i from zJ _ _ ei]at hk;show upd s.blk id .gone i=some k;rw[zJ _ _ ei];exact hk⟩
 ·intro i j bi bj ki kj hne q1 l1 q2 l2 p1 p2
  have f: ∀ {i k},upd s.blk id .gone i=some k→k.live=true→(s.setB id (.ar pin e es rows false)).blk i=some k:=by
   intro i k q l
   by_cases ei:i=id
   ·subst ei
    obtain rfl:AB.gone=k:=by have:some AB.gone=some k:=(zR s.blk i AB.gone).symm.trans q;exact Option.some.inj this
    cases l
   ·rw[zJ _ _ ei]at q
    rw[show(s.setB id (.ar pin e es rows false)).blk i=s.blk i from zJ _ _ ei];exact q
  exact hs.hh.hinj i j bi bj ki kj hne (f q1 l1) l1 (f q2 l2) l2 p1 p2
 ·intro t x hx
  by_cases et:t=u
  ·subst et
   obtain rfl:AV.lst es rows false=x:=by have:some (AV.lst es rows false)=some x:=(zR s.env t _).symm.trans hx;exact Option.some.inj this
   have:=hs.henv t (.arr id) hu
   exact VR.up (zcb hs.hh this (by simp only[argV,argS,hk2]))
  ·exact hs.henv t x (by rw[show(s.setB id (.ar pin e es rows false)).env t=s.env t from rfl];have:upd s.env u (.lst es rows false) t=some x:=hx;rw[zJ _ _ et]at this;exact this)
theorem zlr(u id:Nat){e es:Nat}{rows:List (List AV)}(hu:s.env u=some (grV id es rows))(hk:s.blk id=some (grB e es rows)):Less s ⟨upd s.env u (.lst es rows false),upd s.blk id .gone⟩:=by
 cases rows with
 |nil=>
  intro w0 nt β S a w hs
  have e1:upd s.blk id .gone=s.blk:=zko hk
  refine⟨β,S,by rw[e1];exact hs.hh,?_,hs.hsize,hs.hdefers⟩
  intro t x hx
  by_cases et:t=u
  ·subst et
   obtain rfl:AV.lst es [] false=x:=by have:some (AV.lst es [] false)=some x:=(zR s.env t _).symm.trans hx;exact Option.some.inj this
   exact(Wk.nilF es es true).ok (hs.henv t _ hu)
  ·exact hs.henv t x (by have:upd s.env u (.lst es [] false) t=some x:=hx;rw[zJ _ _ et]at this;exact this)
 |cons r l=>exact zq3 u id hu hk
end
end Go.Aw
