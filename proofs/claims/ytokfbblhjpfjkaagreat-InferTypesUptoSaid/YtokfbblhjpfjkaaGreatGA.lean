/- A small program logic over the kit's wp: abstract values, what they stand for in -/
import Derived.WalkKit
import Derived.Below
import Derived.KernelRfl
import Derived.Maps.Keyed
import Derived.Laws.AppendOwn
import Derived.Laws.MakeOwn
import Derived.Laws.Tables
import Derived.Laws.OwnMore
namespace Go.Aw
open Go.RowKit
inductive AV where
 |int (k:IntKind) (n:Int)
 |bool (b:Bool)
 |str (s:ByteArray)
 |any
 |nilp
 |nilf
 |fn (f:Fn) (first caps:List AV)
 |lst (es:Nat) (rows:List (List AV)) (full:Bool)
 |agg (cs:List AV)
 |tup (vs:List AV)
 |ptr (id off:Nat)
 |arr (id:Nat)
 |aptr (id i off:Nat)
 |eptr (row:List AV) (off:Nat)
 |own (e es:Nat) (rows:List (List AV)) (wr:Bool)
 |mp (id:Nat)
 deriving Inhabited
structure BI where
 b:Nat
 n:Nat
 c:Nat
 es:Nat
abbrev Bt:=Nat→Option BI
abbrev St:=Nat→Nat→Prop
def nb:Bt:=fun _=>none
inductive VRi (S:St) (w:World):Bt→Value→AV→Prop
 |any {β:Bt} (v):VRi S w β v .any
 |int {β:Bt} (k n):VRi S w β (.int k n) (.int k n)
 |bool {β:Bt} (b):VRi S w β (.bool b) (.bool b)
 |str {β:Bt} (s):VRi S w β (.string s) (.str s)
 |nilp {β:Bt}:VRi S w β (.pointer none) .nilp
 |nilf {β:Bt}:VRi S w β .nilFunc .nilf
 |fn {β:Bt} (f:Fn) (fi ca:Array Value) (xi xa:List AV) (h1:fi.size=xi.length) (h2:ca.size=xa.length)
  (h3: ∀ j,j <xi.length→VRi S w β (fi.getD j undef) (xi.getD j .any))
  (h4: ∀ j,j <xa.length→VRi S w β (ca.getD j undef) (xa.getD j .any)):VRi S w β (.func f fi ca) (.fn f xi xa)
 |lst0 {β:Bt} (es:Nat) (full:Bool):VRi S w β (.slice none 0 0) (.lst es [] full)
 |lstZ {β:Bt} (a:Addr) (es:Nat) (full:Bool):VRi S w β (.slice (some a) 0 0) (.lst es [] full)
 |lst {β:Bt} (b o n c es:Nat) (rows:List (List AV)) (full:Bool) (cells:Nat→Nat→Value) (h1:rows.length=n) (h2:n≤c) (h3:full=true→c=n)
  (h4: ∀ i,i <n→(rows.getD i []).length=es)
  (h5: ∀ i j,i <n→j <es→S b (o+i*es+j)∧w.cell? ⟨b,o+i*es+j,none⟩=some (cells i j)∧(cells i j).oneCell'=true)
  (h6: ∀ i j,i <n→j <es→VRi S w nb (cells i j) ((rows.getD i []).getD j .any)):VRi S w β (.slice (some ⟨b,o,none⟩) n c) (.lst es rows full)
 |agg {β:Bt} (cs:Array Value) (xs:List AV) (h1:cs.size=xs.length) (h3: ∀ j,j <xs.length→VRi S w β (cs.getD j undef) (xs.getD j .any)) (h4: ∀ j,j <xs.length→(cs.getD j undef).oneCell'=true):VRi S w β (.agg cs) (.agg xs)
 |tup {β:Bt} (cs:Array Value) (xs:List AV) (h1:cs.size=xs.length) (h3: ∀ j,j <xs.length→VRi S w β (cs.getD j undef) (xs.getD j .any)):VRi S w β (.tuple cs) (.tup xs)
 |ptr {β:Bt} (id off:Nat) (bi:BI) (h:β id=some bi):VRi S w β (.pointer (some ⟨bi.b,off,none⟩)) (.ptr id off)
 |arr {β:Bt} (id:Nat) (bi:BI) (h:β id=some bi):VRi S w β (.slice (some ⟨bi.b,0,none⟩) bi.n bi.c) (.arr id)
 |aptr {β:Bt} (id i off:Nat) (bi:BI) (h:β id=some bi):VRi S w β (.pointer (some ⟨bi.b,i*bi.es+off,none⟩)) (.aptr id i off)
 |eptr {β:Bt} (b o off:Nat) (row:List AV) (cells:Nat→Value)
  (h5: ∀ j,j <row.length→S b (o+j)∧w.cell? ⟨b,o+j,none⟩=some (cells j)∧(cells j).oneCell'=true)
  (h6: ∀ j,j <row.length→VRi S w nb (cells j) (row.getD j .any)):VRi S w β (.pointer (some ⟨b,o+off,none⟩)) (.eptr row off)
 |mp {β:Bt} (id:Nat) (bi:BI) (h:β id=some bi):VRi S w β (.map (some bi.b)) (.mp id)
abbrev VR(β:Bt)(S:St)(w:World)(v:Value)(x:AV):Prop:=VRi S w β v x
theorem VR.mono{β β':Bt}{S S':St}{w w':World}(hb: ∀ id bi,β id=some bi→β' id=some bi)
 (hS: ∀ b o,S b o→S' b o∧w'.cell? ⟨b,o,none⟩=w.cell? ⟨b,o,none⟩) {v:Value} {x:AV} (h:VR β S w v x):VR β' S' w' v x:=by
 induction h generalizing β' with
 |any v=>exact .any v
 |int k n=>exact .int k n
 |bool b=>exact .bool b
 |str s=>exact .str s
 |nilp=>exact .nilp
 |nilf=>exact .nilf
 |fn f fi ca xi xa h1 h2 _ _ i3 i4=>exact .fn f fi ca xi xa h1 h2 (fun j hj=>i3 j hj hb) (fun j hj=>i4 j hj hb)
 |lst0 es full=>exact .lst0 es full
 |lstZ a es full=>exact .lstZ a es full
 |lst b o n c es rows full cells h1 h2 h3 h4 h5 _ i6=>
  exact .lst b o n c es rows full cells h1 h2 h3 h4 (fun i j hi hj=>let ⟨a,q,r⟩:=h5 i j hi hj;⟨(hS _ _ a).1,(hS _ _ a).2.trans q,r⟩) (fun i j hi hj=>i6 i j hi hj (fun _ _ q=>by cases q))
 |agg cs xs h1 _ h4 i3=>exact .agg cs xs h1 (fun j hj=>i3 j hj hb) h4
 |tup cs xs h1 _ i3=>exact .tup cs xs h1 (fun j hj=>i3 j hj hb)
 |ptr id off bi h=>exact .ptr id off bi (hb _ _ h)
 |arr id bi h=>exact .arr id bi (hb _ _ h)
 |aptr id i off bi h=>exact .aptr id i off bi (hb _ _ h)
 |mp id bi h=>exact .mp id bi (hb _ _ h)
 |eptr b o off row cells h5 _ i6=>exact .eptr b o off row cells (fun j hj=>let ⟨a,q,r⟩:=h5 j hj;⟨(hS _ _ a).1,(hS _ _ a).2.trans q,r⟩) (fun j hj=>i6 j hj (fun _ _ q=>by cases q))
theorem VRi.mono{β β':Bt}{S S':St}{w w':World}{v:Value}{x:AV}(h:VRi S w β v x)(hb: ∀ id bi,β id=some bi→β' id=some bi)
 (hS: ∀ b o,S b o→S' b o∧w'.cell? ⟨b,o,none⟩=w.cell? ⟨b,o,none⟩):VR β' S' w' v x:=VR.mono hb hS h
theorem VR.up{β:Bt}{S:St}{w:World}{v:Value}{x:AV}(h:VR nb S w v x):VR β S w v x:=VR.mono (fun _ _ q=>by cases q) (fun _ _ q=>⟨q,rfl⟩) h
def zai:AV→Bool
 | .int .. | .bool _| .str _| .any| .nilp| .nilf| .lst .. | .eptr .. =>true
 |_=>false
def zaj:AV→Bool
 | .fn _ a b=>a.all zai&&b.all zai
 |x=>zai x
def zgO:AV→Bool
 | .agg cs=>cs.all zaj
 |x=>zaj x
def zf5:AV→Bool
 | .tup vs=>vs.all zgO
 |x=>zgO x
theorem zbp{β:Bt}{S:St}{w:World}{v:Value}{x:AV}(hc:zai x=true)(h:VR β S w v x):VR nb S w v x:=by
 cases h <;>simp[zai]at hc
 ·exact .any _
 ·exact .int _ _
 ·exact .bool _
 ·exact .str _
 ·exact .nilp
 ·exact .nilf
 ·exact .lst0 _ _
 ·exact .lstZ _ _ _
 ·exact .lst _ _ _ _ _ _ _ _ ‹_› ‹_› ‹_› ‹_› ‹_› ‹_›
 ·exact .eptr _ _ _ _ _ ‹_› ‹_›
theorem za7{p:AV→Bool}{l:List AV}(h:l.all p=true){j:Nat}(hj:j <l.length):p (l.getD j .any)=true:=by
 rw[List.all_eq_true]at h
 have:l.getD j .any=l[j]:=by simp[List.getD_eq_getElem?_getD,hj]
 rw[this];exact h _ (List.getElem_mem hj)
theorem zc3{β:Bt}{S:St}{w:World}{v:Value}{x:AV}(hc:zaj x=true)(h:VR β S w v x):VR nb S w v x:=by
 cases h with
 |fn f fi ca xi xa h1 h2 h3 h4=>
  simp only[zaj,Bool.and_eq_true]at hc
  exact .fn f fi ca xi xa h1 h2 (fun j hj=>zbp (za7 hc.1 hj) (h3 j hj)) (fun j hj=>zbp (za7 hc.2 hj) (h4 j hj))
 |any=>exact .any _
 |int=>exact .int _ _
 |bool=>exact .bool _
 |str=>exact .str _
 |nilp=>exact .nilp
 |nilf=>exact .nilf
 |lst0=>exact .lst0 _ _
 |lstZ=>exact .lstZ _ _ _
 |lst _ _ _ _ _ _ _ _ h1 h2 h3 h4 h5 h6=>exact .lst _ _ _ _ _ _ _ _ h1 h2 h3 h4 h5 h6
 |eptr _ _ _ _ _ h5 h6=>exact .eptr _ _ _ _ _ h5 h6
 |agg=>simp[zaj,zai]at hc
 |tup=>simp[zaj,zai]at hc
 |ptr=>simp[zaj,zai]at hc
 |arr=>simp[zaj,zai]at hc
 |aptr=>simp[zaj,zai]at hc
 |mp=>simp[zaj,zai]at hc
theorem zkc{β:Bt}{S:St}{w:World}{v:Value}{x:AV}(hc:zgO x=true)(h:VR β S w v x):VR nb S w v x:=by
 by_cases e: ∃ cs,x=.agg cs
 ·obtain⟨cs,rfl⟩:=e
  cases h with
  |agg c xs h1 h3 h4=>exact .agg c cs h1 (fun j hj=>zc3 (za7 hc hj) (h3 j hj)) h4
 ·exact zc3 (by cases x <;>first|exact hc|exact absurd ⟨_,rfl⟩ e) h
theorem zjK{β:Bt}{S:St}{w:World}{v:Value}{x:AV}(hc:zf5 x=true)(h:VR β S w v x):VR nb S w v x:=by
 by_cases e: ∃ cs,x=.tup cs
 ·obtain⟨cs,rfl⟩:=e
  cases h with
  |tup c xs h1 h3=>exact .tup c cs h1 (fun j hj=>zkc (za7 hc hj) (h3 j hj))
 ·exact zkc (by cases x <;>first|exact hc|exact absurd ⟨_,rfl⟩ e) h
end Go.Aw
namespace Go.Aw
open Go.RowKit
inductive AB where
 |bx (pin:Option BI) (cells:List AV)
 |ar (pin:Option BI) (e es:Nat) (rows:List (List AV)) (wr:Bool)
 |ro (e es:Nat) (rows:List (List AV))
 |gone
 |rob (cells:List AV)
 |mp (pin:Option BI) (n:Nat) (f:Int→Option AV)
abbrev AB.box(cells:List AV):AB:=.bx none cells
abbrev AB.arr(e es:Nat)(rows:List (List AV))(wr:Bool):AB:=.ar none e es rows wr
def AB.live:AB→Bool
 | .ro .. =>false
 | .gone=>false
 | .rob _=>false
 |_=>true
abbrev Bk:=Nat→Option AB
structure AS where
 env:Nat→Option AV
 blk:Bk
def upd{α:Type}(f:Nat→Option α)(t:Nat)(v:α)(u:Nat):Option α:=match Nat.beq u t with
 |true=>some v
 |false=>f u
theorem zR{α:Type}(f:Nat→Option α)(t:Nat)(v:α):upd f t v t=some v:=by
 unfold upd;rw[Nat.beq_refl]
theorem zJ{α:Type}(f:Nat→Option α){t u:Nat}(v:α)(h:u≠t):upd f t v u=f u:=by
 unfold upd
 have:Nat.beq u t=false:=by
  cases e:Nat.beq u t with
  |true=>exact absurd (Nat.eq_of_beq_eq_true e) h
  |false=>rfl
 rw[this]
def zuE(f:Nat→Option AV)(d:Option Nat)(v:AV):Nat→Option AV:=match d with
 |some t=>upd f t v
 |none=>f
def AS.put(s:AS)(d:Option Nat)(v:AV):AS:=⟨zuE s.env d v,s.blk⟩
def AS.setB(s:AS)(id:Nat)(k:AB):AS:=⟨s.env,upd s.blk id k⟩
def CR(β:Bt)(S:St)(w:World)(cs:Array Value)(o:Nat)(xs:List AV):Prop:=
 ∀ j,j <xs.length→VR β S w (cs.getD (o+j) undef) (xs.getD j .any)∧(cs.getD (o+j) undef).oneCell'=true
def zun(S:St)(w:World)(es:Array MapEntry)(clock n:Nat)(f:Int→Option AV):Prop:=
 es.size≤n∧Go.MapKept.Stamped es clock∧(∀ x,x∈es.toList→ ∃ i:Int,x.key=.int .i64 i∧(Lit.int .i64 i).wf=true∧ ∃ v,f i=some v∧VR nb S w x.val v)∧(∀ i v,f i=some v→ ∃ x,x∈es.toList∧x.key=.int .i64 i)
def BR(β:Bt)(S:St)(w:World)(bi:BI):AB→Prop
 | .bx p cells=> ∃ cs t,w.heap[bi.b]? =some (.cells cs t (0,0))∧cs.size=cells.length∧CR β S w cs 0 cells∧(∀ o,¬S bi.b o)∧ ∀ B,p=some B→bi=B
 | .ar p e es rows wr=>bi.es=es∧bi.n=rows.length∧ ∃ cs,w.heap[bi.b]? =some (.cells cs e (0,0))∧bi.n≤bi.c∧bi.c≤maxLen∧cs.size=bi.c*es∧
  (∀ i,i <rows.length→(rows.getD i []).length=es∧CR nb S w cs (i*es) (rows.getD i []))∧
  (wr=true→ ∀ o,¬S bi.b o)∧(wr=false→ ∀ o,S bi.b o↔o <bi.n*es)∧ ∀ B,p=some B→bi=B
 | .ro _ es rows=>bi.es=es∧bi.n=rows.length∧bi.n≤bi.c∧
  (∀ i,i <rows.length→(rows.getD i []).length=es∧ ∀ j,j <es→S bi.b (i*es+j)∧ ∃ v,w.cell? ⟨bi.b,i*es+j,none⟩=some v∧v.oneCell'=true∧VR nb S w v ((rows.getD i []).getD j .any))
 | .gone=>True
 | .mp p n f=> ∃ es clock,w.heap[bi.b]? =some (.map es clock)∧zun S w es clock n f∧(∀ o,¬S bi.b o)∧ ∀ B,p=some B→bi=B
 | .rob cells=> ∀ j,j <cells.length→S bi.b j∧ ∃ v,w.cell? ⟨bi.b,j,none⟩=some v∧v.oneCell'=true∧VR nb S w v (cells.getD j .any)
structure B0 where
 w:World
 S:St
 old:Nat→Prop
 hlt0: ∀ b,old b→b <w.heap.size
def B0.heap(b:B0):Array Obj:=b.w.heap
structure BelowP (old:Nat→Prop) (w w':World):Prop where
 os:w'.os=w.os
 tape:w'.tape=w.tape
 output:w'.output=w.output
 size:w.heap.size≤w'.heap.size
 block: ∀ k,old k→w'.heap[k]? =w.heap[k]?
theorem BelowP.refl(old:Nat→Prop)(w:World):BelowP old w w:=⟨rfl,rfl,rfl,Nat.le_refl _,fun _ _=>rfl⟩
theorem BelowP.trans{old:Nat→Prop}{a b c:World}(h:BelowP old a b)(k:BelowP old b c):BelowP old a c:=
 ⟨k.os.trans h.os,k.tape.trans h.tape,k.output.trans h.output,Nat.le_trans h.size k.size,fun b hb=>(k.block b hb).trans (h.block b hb)⟩
theorem BelowP.of{old:Nat→Prop}{B:Nat}{w w':World}(h:Below B w w')(ho: ∀ k,old k→k <B):BelowP old w w':=⟨h.os,h.tape,h.output,h.size,fun k hk=>h.block k (ho k hk)⟩
theorem BelowP.below{B:Nat}{w w':World}(h:BelowP (· <B) w w'):Below B w w':=⟨h.os,h.tape,h.output,h.size,fun k hk=>h.block k hk⟩
structure HR (w0:B0) (β:Bt) (S:St) (blk:Bk) (w:World):Prop where
 hblk: ∀ id k,blk id=some k→ ∃ bi,β id=some bi∧BR β S w bi k∧(k.live=true→ ¬w0.old bi.b)
 hdom: ∀ id bi,β id=some bi→ ∃ k,blk id=some k
 hinj: ∀ i j bi bj ki kj,i≠j→blk i=some ki→ki.live=true→blk j=some kj→kj.live=true→β i=some bi→β j=some bj→bi.b≠bj.b
 hold: ∀ b o,w0.S b o→S b o
 hnew: ∀ b o,S b o→w0.old b→w0.S b o
 hlt: ∀ b o,S b o→b <w.heap.size
 hbelow:BelowP w0.old w0.w w
structure SR (w0:B0) (nt:Nat) (β:Bt) (S:St) (s:AS) (a:Act) (w:World):Prop where
 hh:HR w0 β S s.blk w
 henv: ∀ t x,s.env t=some x→VR β S w (a.tmps.getD t undef) x
 hsize:a.tmps.size=nt
 hdefers:a.defers=[]
theorem CR.mono{β β':Bt}{S S':St}{w w':World}(hb: ∀ id bi,β id=some bi→β' id=some bi)
 (hS: ∀ b o,S b o→S' b o∧w'.cell? ⟨b,o,none⟩=w.cell? ⟨b,o,none⟩) {cs:Array Value} {o:Nat} {xs:List AV} (h:CR β S w cs o xs):CR β' S' w' cs o xs:=
 fun j hj=>⟨(h j hj).1.mono hb hS,(h j hj).2⟩
theorem zch{w w':World}(hB:Below w.heap.size w w'){b o:Nat}(h:b <w.heap.size):w'.cell? ⟨b,o,none⟩=w.cell? ⟨b,o,none⟩:=
 hB.cell (p:=⟨b,o,none⟩) h
theorem zed{w:World}{b:Nat}{o:Obj}(h:w.heap[b]? =some o):b <w.heap.size:=(Array.getElem?_eq_some_iff.1 h).1
theorem BR.ext{β β':Bt}{S S':St}{w w':World}{bi:BI}{k:AB}(hb: ∀ id bi,β id=some bi→β' id=some bi)
 (hS: ∀ b o,S b o→S' b o∧w'.cell? ⟨b,o,none⟩=w.cell? ⟨b,o,none⟩) (hh:k.live=true→w'.heap[bi.b]? =w.heap[bi.b]?)
 (hn:k.live=true→ ∀ o,S' bi.b o→S bi.b o) (h:BR β S w bi k):BR β' S' w' bi k:=by
 cases k with
 |bx p cells=>
  obtain⟨cs,t,h1,h2,h3,h4⟩:=h
  exact⟨cs,t,(hh rfl).trans h1,h2,h3.mono hb hS,fun o ho=>h4.1 o (hn rfl o ho),h4.2⟩
 |ar p e es rows wr=>
  obtain⟨h1,h2,cs,h3,h4,h5,h6,h7,h8,h9,h10⟩:=h
  exact⟨h1,h2,cs,(hh rfl).trans h3,h4,h5,h6,fun i hi=>⟨(h7 i hi).1,(h7 i hi).2.mono (fun _ _ q=>by cases q) hS⟩,fun hw o ho=>h8 hw o (hn rfl o ho),
   fun hw o=>⟨fun ho=>(h9 hw o).1 (hn rfl o ho),fun ho=>(hS _ _ ((h9 hw o).2 ho)).1⟩,h10⟩
 |ro e es rows=>
  obtain⟨h1,h2,h3,h4⟩:=h
  refine⟨h1,h2,h3,fun i hi=>⟨(h4 i hi).1,fun j hj=>?_⟩⟩
  obtain⟨q,v,h5,h6,h7⟩:=(h4 i hi).2 j hj
  exact⟨(hS _ _ q).1,v,(hS _ _ q).2.trans h5,h6,h7.mono (fun _ _ q=>by cases q) hS⟩
 |gone=>exact trivial
 |mp p n f=>
  obtain⟨es,clock,h1,⟨h2,h3,h4,h5⟩,h6,h7⟩:=h
  refine⟨es,clock,(hh rfl).trans h1,⟨h2,h3,fun x hx=>?_,h5⟩,fun o ho=>h6 o (hn rfl o ho),h7⟩
  obtain⟨i,q1,q2,v,q3,q4⟩:=h4 x hx
  exact⟨i,q1,q2,v,q3,q4.mono (fun _ _ q=>by cases q) hS⟩
 |rob cells=>
  intro j hj
  obtain⟨q,v,h5,h6,h7⟩:=h j hj
  exact⟨(hS _ _ q).1,v,(hS _ _ q).2.trans h5,h6,h7.mono (fun _ _ q=>by cases q) hS⟩
theorem BR.lt{β:Bt}{S:St}{w:World}{bi:BI}{k:AB}(h:BR β S w bi k)(hl:k.live=true):bi.b <w.heap.size:=by
 cases k with
 |bx p cells=>obtain⟨cs,t,h1,_⟩:=h;exact zed h1
 |ar p e es rows wr=>obtain⟨_,_,cs,h1,_⟩:=h;exact zed h1
 |ro e es rows=>cases hl
 |gone=>cases hl
 |rob cells=>cases hl
 |mp p n f=>obtain⟨es,clock,h1,_⟩:=h;exact zed h1
theorem HR.ext{w0:B0}{w w':World}{β:Bt}{S:St}{blk:Bk}(h:HR w0 β S blk w)(hB:Below w.heap.size w w'):HR w0 β S blk w' where
 hblk id k hk:=by
  obtain⟨bi,h1,h2,h3⟩:=h.hblk id k hk
  exact⟨bi,h1,h2.ext (fun _ _ q=>q) (fun b o q=>⟨q,zch hB (h.hlt b o q)⟩) (fun hl=>hB.block _ (h2.lt hl)) (fun _ _ q=>q),h3⟩
 hdom:=h.hdom
 hinj:=h.hinj
 hold:=h.hold
 hnew:=h.hnew
 hlt b o q:=Nat.lt_of_lt_of_le (h.hlt b o q) hB.size
 hbelow:=h.hbelow.trans (.of hB fun k hk=>Nat.lt_of_lt_of_le (w0.hlt0 k hk) h.hbelow.size)
theorem SR.vr_ext{w0:B0}{w w':World}{β:Bt}{S:St}{blk:Bk}(h:HR w0 β S blk w)(hB:Below w.heap.size w w'){v:Value}{x:AV}(hv:VR β S w v x):VR β S w' v x:=
 hv.mono (fun _ _ q=>q) (fun b o q=>⟨q,zch hB (h.hlt b o q)⟩)
theorem SR.ext{w0:B0}{w w':World}{nt:Nat}{β:Bt}{S:St}{s:AS}{a:Act}(h:SR w0 nt β S s a w)(hB:Below w.heap.size w w'):SR w0 nt β S s a w':=
 ⟨h.hh.ext hB,fun t x q=>SR.vr_ext h.hh hB (h.henv t x q),h.hsize,h.hdefers⟩
def zt(nt:Nat):Option Nat→Bool
 |some d=>Nat.blt d nt
 |none=>true
theorem zgg{α:Type}(xs:Array α)(i:Nat)(v d:α)(h:i <xs.size):(xs.setIfInBounds i v).getD i d=v:=by simp[Array.getD,h]
theorem zfG{α:Type}(xs:Array α){i j:Nat}(v d:α)(h:j≠i):(xs.setIfInBounds i v).getD j d=xs.getD j d:=by
 simp only[Array.getD_eq_getD_getElem?,Array.getElem?_setIfInBounds]
 rw[if_neg (fun e=>h e.symm)]
theorem SR.put{w0:B0}{w:World}{nt:Nat}{β:Bt}{S:St}{s:AS}{a:Act}(h:SR w0 nt β S s a w){d:Option Nat}(hd:zt nt d=true){v:Value}{x:AV}(hv:VR β S w v x):
 SR w0 nt β S (s.put d x) (a.put d v) w:=by
 cases d with
 |none=>exact⟨h.hh,h.henv,h.hsize,h.hdefers⟩
 |some d=>
  have hlt:d <a.tmps.size:=by rw[h.hsize];simpa[zt,Nat.blt_eq]using hd
  refine⟨h.hh,?_,by simp[Act.put,h.hsize],h.hdefers⟩
  intro t y hy
  by_cases e:t=d
  ·subst e
   have:some x=some y:=(zR s.env t x).symm.trans hy
   obtain rfl:=Option.some.inj this
   simp only[Act.put]
   rw[zgg _ _ _ _ hlt];exact hv
  ·have:s.env t=some y:=(zJ s.env x e).symm.trans hy
   simp only[Act.put]
   rw[zfG _ _ _ e];exact h.henv t y this
theorem HR.new{w0:B0}{w w':World}{β:Bt}{S:St}{blk:Bk}(h:HR w0 β S blk w)(hB:Below w.heap.size w w'){id:Nat}(hid:blk id=none){k:AB}{bi:BI}{S':St}
 (hS: ∀ b o,S' b o↔S b o∨(w.heap.size≤b∧b <w'.heap.size∧S' b o)) (hb:w.heap.size≤bi.b)
 (hk:BR (upd β id bi) S' w' bi k):HR w0 (upd β id bi) S' (upd blk id k) w'∧ ∀ {v x},VR β S w v x→VR (upd β id bi) S' w' v x:=by
 have hβn:β id=none:=by
  cases e:β id with
  |none=>rfl
  |some b=>obtain⟨k,hk⟩:=h.hdom id b e;rw[hid]at hk;cases hk
 have hb': ∀ i b,β i=some b→upd β id bi i=some b:=by
  intro i b q
  by_cases e:i=id
  ·subst e;rw[hβn]at q;cases q
  ·rw[zJ β bi e];exact q
 have hSm: ∀ b o,S b o→S' b o∧w'.cell? ⟨b,o,none⟩=w.cell? ⟨b,o,none⟩:=fun b o q=>⟨(hS b o).2 (.inl q),zch hB (h.hlt b o q)⟩
 have hSl: ∀ b o,b <w.heap.size→S' b o→S b o:=by
  intro b o hlt q
  rcases(hS b o).1 q with q|⟨q,_⟩
  ·exact q
  ·omega
 have hgs:w0.heap.size≤w.heap.size:=h.hbelow.size
 refine⟨⟨?_,?_,?_,fun b o q=>(hSm b o (h.hold b o q)).1,fun b o q hl=>((hS b o).1 q).elim (fun q=>h.hnew b o q hl) (fun q=>by have:=w0.hlt0 b hl;have:w0.w.heap.size≤w.heap.size:=hgs;omega),?_,h.hbelow.trans (.of hB fun k hk=>Nat.lt_of_lt_of_le (w0.hlt0 k hk) hgs)⟩,fun hv=>hv.mono hb' hSm⟩
 ·intro i kk q
  by_cases e:i=id
  ·subst e
   have:some k=some kk:=(zR blk i k).symm.trans q
   obtain rfl:=Option.some.inj this
   exact⟨bi,zR β i bi,hk,fun _ ho=>by have:=w0.hlt0 _ ho;have:w0.w.heap.size≤w.heap.size:=hgs;omega⟩
  ·rw[zJ blk k e]at q
   obtain⟨b2,h1,h2,h3⟩:=h.hblk i kk q
   exact⟨b2,hb' i b2 h1,h2.ext hb' hSm (fun hl=>hB.block _ (h2.lt hl)) (fun hl o q=>hSl _ o (h2.lt hl) q),h3⟩
 ·intro i b q
  by_cases e:i=id
  ·subst e;exact⟨k,zR blk i k⟩
  ·rw[zJ β bi e]at q
   obtain⟨k2,hk2⟩:=h.hdom i b q
   exact⟨k2,by rw[zJ blk k e];exact hk2⟩
 ·intro i j b1 b2 k1 k2 hne q1 l1 q2 l2 p1 p2
  by_cases ei:i=id
  ·subst ei
   have ej:j≠i:=fun e=>hne e.symm
   rw[zJ blk k ej]at q2
   rw[zJ β bi ej]at p2
   rw[zR]at p1
   obtain rfl:=Option.some.inj p1
   obtain⟨b3,h1,h2,_⟩:=h.hblk j k2 q2
   rw[p2]at h1
   obtain rfl:=Option.some.inj h1
   have:=h2.lt l2
   omega
  ·rw[zJ blk k ei]at q1
   rw[zJ β bi ei]at p1
   by_cases ej:j=id
   ·subst ej
    rw[zR]at p2
    obtain rfl:=Option.some.inj p2
    obtain⟨b3,h1,h2,_⟩:=h.hblk i k1 q1
    rw[p1]at h1
    obtain rfl:=Option.some.inj h1
    have:=h2.lt l1
    omega
   ·rw[zJ blk k ej]at q2
    rw[zJ β bi ej]at p2
    exact h.hinj i j b1 b2 k1 k2 hne q1 l1 q2 l2 p1 p2
 ·intro b o q
  rcases(hS b o).1 q with q|⟨_,q,_⟩
  ·exact Nat.lt_of_lt_of_le (h.hlt b o q) hB.size
  ·exact q
end Go.Aw
namespace Go.Aw
open Go.RowKit
inductive Desc where
 |scalar
 |struct (fs:List (Nat×Nat))
 |slice (e:Nat)
 |array (n e:Nat)
structure TI where
 size:Nat
 bytes:Nat
 desc:Desc
 zero:List AV
 pl:List (Nat×Nat)
def descOK(d:TypeDesc):Desc→Bool
 | .scalar=>match d with| .struct _=>false| .array _ _=>false|_=>true
 | .struct fs=>match d with| .struct f=>f.toList.map (fun g=>(g.offset,g.type))==fs|_=>false
 | .slice e=>match d with| .slice e'=>Nat.beq e e'|_=>false
 | .array n e=>match d with| .array n' e'=>Nat.beq n n'&&Nat.beq e e'|_=>false
def okZ:Value→AV→Bool
 | .int k n,.int k' n'=>decide (k=k')&&decide (n=n')
 | .bool b,.bool b'=>b==b'
 | .string s,.str s'=>decide (s=s')
 | .pointer none,.nilp=>true
 | .nilFunc,.nilf=>true
 | .slice none 0 0,.lst _ [] _=>true
 |_,.any=>true
 |_,_=>false
def zerosOK:List Value→List AV→Bool
 |[],[]=>true
 |v::vs,x::xs=>okZ v x&&v.oneCell'&&zerosOK vs xs
 |_,_=>false
def placesOf(P:Program):TypeDesc→Option (List (Nat×Nat))
 | .struct fields=>fields.toList.mapM (fun f=>(P.info? f.type).map fun i=>(f.offset,i.size))
 |_=>some []
def tiOK(P:Program)(t:Nat)(i:TI):Bool:=match P.info? t,P.underlying t with
 |some ci,some d=>Nat.beq ci.size i.size&&Nat.beq ci.bytes i.bytes&&(placesOf P d==some i.pl)&&descOK d i.desc&&(match ci.zero with|some z=>zerosOK z.cells.toList i.zero&&Nat.beq z.cells.size i.size&&(match i.desc with| .struct _=>(match z with| .agg _=>true|_=>false)| .scalar=>z.oneCell'| .slice _=>z.oneCell'| .array _ _=>(match z with| .agg _=>true|_=>false))|none=>false)
 |_,_=>false
abbrev Ty:=Nat→Option TI
def TyOK(P:Program)(ty:Ty):Prop:= ∀ t i,ty t=some i→tiOK P t i=true
theorem zuV{β:Bt}{S:St}{w:World}: ∀ {v:Value} {x:AV},okZ v x=true→VR β S w v x:=by
 intro v x h
 unfold okZ at h
 split at h
 ·simp at h;obtain⟨rfl,rfl⟩:=h;exact .int _ _
 ·simp at h;subst h;exact .bool _
 ·simp at h;subst h;exact .str _
 ·exact .nilp
 ·exact .nilf
 ·exact .lst0 _ _
 ·exact .any _
 ·cases h
theorem zcU{β:Bt}{S:St}{w:World}: ∀ {vs:List Value} {xs:List AV},zerosOK vs xs=true→vs.length=xs.length∧ ∀ j,j <xs.length→VR β S w (vs.getD j undef) (xs.getD j .any)∧(vs.getD j undef).oneCell'=true
 |[],[],_=>⟨rfl,fun j hj=>by simp at hj⟩
 |[],_::_,h=>by simp[zerosOK]at h
 |_::_,[],h=>by simp[zerosOK]at h
 |v::vs,x::xs,h=>by
  simp only[zerosOK,Bool.and_eq_true]at h
  obtain⟨h1,h2⟩:=zcU (β:=β) (S:=S) (w:=w) h.2
  refine⟨by simp[h1],fun j hj=>?_⟩
  cases j with
  |zero=>exact⟨zuV h.1.1,h.1.2⟩
  |succ j=>simpa using h2 j (by simpa using hj)
structure TIs (P:Program) (t:Nat) (i:TI) (ci:TypeInfo) (d:TypeDesc) (z:Value):Prop where
 info:P.info? t=some ci
 und:P.underlying t=some d
 size:ci.size=i.size
 bytes:ci.bytes=i.bytes
 pls:placesOf P d=some i.pl
 desc:descOK d i.desc=true
 zero:ci.zero=some z
 zs:zerosOK z.cells.toList i.zero=true
 zsize:z.cells.size=i.size
theorem TyOK.get{P:Program}{ty:Ty}(h:TyOK P ty){t:Nat}{i:TI}(ht:ty t=some i): ∃ ci d z,TIs P t i ci d z:=by
 have:=h t i ht
 unfold tiOK at this
 split at this
 ·rename_i ci d h1 h2
  simp only[Bool.and_eq_true]at this
  obtain⟨⟨⟨⟨a,b⟩,b2⟩,c⟩,e⟩:=this
  split at e
  ·rename_i z hz
   simp only[Bool.and_eq_true]at e
   exact⟨ci,d,z,h1,h2,Nat.eq_of_beq_eq_true a,Nat.eq_of_beq_eq_true b,by simpa using b2,c,hz,e.1.1,Nat.eq_of_beq_eq_true e.1.2⟩
  ·cases e
 ·cases this
theorem TIs.slice{P:Program}{t e:Nat}{i:TI}{ci:TypeInfo}{d:TypeDesc}{z:Value}(h:TIs P t i ci d z)(hd:i.desc=.slice e):P.underlying t=some (.slice e):=by
 have:=h.desc
 rw[hd]at this
 cases d <;>simp[descOK]at this
 subst this
 exact h.und
theorem TIs.struct{P:Program}{t:Nat}{fs:List (Nat×Nat)}{i:TI}{ci:TypeInfo}{d:TypeDesc}{z:Value}(h:TIs P t i ci d z)(hd:i.desc=.struct fs):
 ∃ f:Array Field,P.underlying t=some (.struct f)∧f.toList.map (fun g=>(g.offset,g.type))=fs:=by
 have:=h.desc
 rw[hd]at this
 cases d <;>simp[descOK]at this
 exact⟨_,h.und,this⟩
def zsq:Value→Option AV
 | .int k n=>some (.int k n)
 | .bool b=>some (.bool b)
 | .string s=>some (.str s)
 | .pointer none=>some .nilp
 | .nilFunc=>some .nilf
 | .slice none 0 0=>some (.lst 0 [] true)
 |_=>none
def evO(s:AS):Operand→Option AV
 | .tmp t=>s.env t
 | .const v=>zsq v
 | .func f=>some (.fn (.func f) [] [])
 | .global _=>none
theorem zah{w0:B0}{w:World}{nt:Nat}{β:Bt}{S:St}{s:AS}{a:Act}(h:SR w0 nt β S s a w){x:Operand}{v:AV}(hx:evO s x=some v):VR β S w (a.eval x) v:=by
 cases x with
 |tmp t=>exact h.henv t v hx
 |const c=>
  have hx:zsq c=some v:=hx
  unfold zsq at hx
  split at hx <;>first|(cases hx;done)|(obtain rfl:=Option.some.inj hx;first|exact .int _ _|exact .bool _|exact .str _|exact .nilp|exact .nilf|exact .lst0 _ _)
 |func f=>obtain rfl:=Option.some.inj hx;exact .fn _ _ _ _ _ rfl rfl (fun j hj=>by simp at hj) (fun j hj=>by simp at hj)
 |global g=>cases hx
def OkOp(P:Program)(w0:B0)(nt:Nat)(o:Oper)(s s':AS):Prop:=
 ∀ β S a w next Q,SR w0 nt β S s a w→(∀ β' S' a' w',SR w0 nt β' S' s' a' w'→next a' w')→o.wp P a w next Q
section
variable {P:Program} {ty:Ty} {w0:B0} {nt:Nat} {s:AS} {d:Option Nat} {t:TypeId} {pos:String} {af:Array Edge} {g:Option (Nat×Bool)}
theorem zaE{op:Op}{x:AV}(hd:zt nt d=true)
 (h: ∀ β S a w,SR w0 nt β S s a w→ ∃ v,(execOp a.eval ⟨d,op,t,pos,af,g⟩).run P w=.ok (.value v) w∧VR β S w v x):OkOp P w0 nt ⟨d,op,t,pos,af,g⟩ s (s.put d x):=by
 intro β S a w next Q hs hn
 obtain⟨v,hr,hv⟩:=h β S a w hs
 unfold Oper.wp
 rw[hr]
 exact hn _ _ _ _ (hs.put hd hv)
theorem zug{x:Operand}{v:AV}(hx:evO s x=some v)(hd:zt nt d=true):OkOp P w0 nt ⟨d,.move x,t,pos,af,g⟩ s (s.put d v):=
 zaE hd fun _ _ _ _ hs=>⟨_,rfl,zah hs hx⟩
theorem zrS{x:Operand}{v:AV}(hx:evO s x=some v)(hd:zt nt d=true):OkOp P w0 nt ⟨d,.assign x,t,pos,af,g⟩ s (s.put d v):=
 zaE hd fun _ _ _ _ hs=>⟨_,rfl,zah hs hx⟩
theorem zqk{c x y:Operand}{b:Bool}{v:AV}(hc:evO s c=some (.bool b))(hx:(if b=true then evO s x else evO s y)=some v)(hd:zt nt d=true):
 OkOp P w0 nt ⟨d,.pick c x y,t,pos,af,g⟩ s (s.put d v):=
 zaE hd fun β S a w hs=>by
  have h1:=zah hs hc
  generalize hv:a.eval c=cv at h1
  cases h1
  refine⟨if b=true then a.eval x else a.eval y,?_,?_⟩
  ·simp[execOp,hv,asBool]
  ·split at hx
   ·rw[if_pos ‹_›];exact zah hs hx
   ·rw[if_neg ‹_›];exact zah hs hx
theorem zfu(b o n:Nat):(⟨b,o,none⟩:Addr).add n=⟨b,o+n,none⟩:=by unfold Addr.add;split <;>simp_all
theorem znO{w:World}{st f off ft:Nat}{fs:Array Field}{ci:TypeInfo}(hu:P.underlying st=some (.struct fs))(hf:(fs.toList.map (fun g=>(g.offset,g.type)))[f]? =some (off,ft))
 (hi:P.info? ft=some ci) (hn:ci.size≠0) (b o:Nat):
 (Instr.fieldAt st (.pointer (some ⟨b,o,none⟩)) f).run P w=.ok (.pointer (some ⟨b,o+off,none⟩)) w:=by
 rw[List.getElem?_map]at hf
 obtain⟨g,hg,he⟩:=Option.map_eq_some_iff.1 hf
 obtain⟨rfl,rfl⟩:=Prod.mk.inj he
 have hg':fs[f]? =some g:=by rw[←Array.getElem?_toList];exact hg
 simp[Instr.fieldAt,run_underlying hu,hg',Instr.sureAddr,fieldPlace,sizeOf,typeInfo,hi,hn,zfu]
def mvP(off:Nat):AV→Option AV
 | .ptr id o=>some (.ptr id (o+off))
 | .aptr id i o=>some (.aptr id i (o+off))
 | .eptr row o=>some (.eptr row (o+off))
 |_=>none
theorem zsw{β:Bt}{S:St}{w:World}{v:Value}{x y:AV}{off:Nat}(h:VR β S w v x)(hm:mvP off x=some y):
 ∃ b o,v=.pointer (some ⟨b,o,none⟩)∧VR β S w (.pointer (some ⟨b,o+off,none⟩)) y:=by
 cases h <;>simp only[mvP]at hm <;>try cases hm
 ·exact⟨_,_,rfl,.ptr _ _ _ ‹_›⟩
 ·exact⟨_,_,rfl,by rw[Nat.add_assoc];exact .aptr _ _ _ _ ‹_›⟩
 ·exact⟨_,_,rfl,by rw[Nat.add_assoc];exact .eptr _ _ _ _ _ ‹_› ‹_›⟩
theorem zfF{a b:Nat}(h:Nat.blt a b=true):a <b:=by simpa[Nat.blt_eq]using h
theorem zlK(hty:TyOK P ty){st f off ft:Nat}{si fi:TI}{fs:List (Nat×Nat)}{x:Operand}{p q:AV}(hsi:ty st=some si)(hfs:si.desc=.struct fs)(hf:fs[f]? =some (off,ft))
 (hfi:ty ft=some fi) (hn:Nat.blt 0 fi.size=true) (hx:evO s x=some p) (hm:mvP off p=some q) (hd:zt nt d=true):
 OkOp P w0 nt ⟨d,.fieldAddr st x f,t,pos,af,g⟩ s (s.put d q):=
 zaE hd fun β S a w hs=>by
  obtain⟨_,_,_,hI⟩:=hty.get hsi
  obtain⟨F,hu,hF⟩:=hI.struct hfs
  obtain⟨ci,_,_,hJ⟩:=hty.get hfi
  obtain⟨b,o,hv,hr⟩:=zsw (zah hs hx) hm
  refine⟨_,?_,hr⟩
  have:=znO (P:=P) (w:=w) hu (hF▸hf) hJ.info (by rw[hJ.size];exact Nat.ne_of_gt (zfF hn)) b o
  simp[execOp,hv,this]
def Desc.isAgg:Desc→Bool
 | .struct _=>true
 | .array .. =>true
 |_=>false
theorem zfZ{w:World}{i:TI}{ci:TypeInfo}{dd:TypeDesc}{z:Value}{u:Nat}(h:TIs P u i ci dd z):(isAgg u).run P w=.ok i.desc.isAgg w:=by
 have h1:=h.und
 have h2:=h.desc
 cases hd:i.desc <;>rw[hd]at h2 <;>cases dd <;>simp[descOK]at h2 <;>simp[isAgg,run_underlying h1,Desc.isAgg]
def behind(blk:Bk)(n:Nat):AV→Option (List AV)
 | .ptr id o=>match blk id with
   |some (.bx _ cells)=>some ((cells.drop o).take n)
   |some (.rob cells)=>some ((cells.drop o).take n)
   |_=>none
 | .aptr id i o=>match blk id with
   |some (.ar _ _ _ rows _)=>(rows[i]?).map fun r=>(r.drop o).take n
   |some (.ro _ _ rows)=>(rows[i]?).map fun r=>(r.drop o).take n
   |_=>none
 | .eptr row o=>some ((row.drop o).take n)
 |_=>none
theorem zb5(l:List AV)(o n j:Nat)(hj:j <((l.drop o).take n).length):((l.drop o).take n).getD j .any=l.getD (o+j) .any∧o+j <l.length:=by
 simp only[List.length_take,List.length_drop]at hj
 refine⟨?_,by omega⟩
 simp only[List.getD_eq_getElem?_getD,List.getElem?_take,List.getElem?_drop]
 rw[if_pos (by omega)]
theorem zfR{w:World}{β:Bt}{S:St}{a:Act}(hs:SR w0 nt β S s a w){v:Value}{p:AV}{n:Nat}{cs:List AV}(hp:VR β S w v p)(hb:behind s.blk n p=some cs):
 ∃ b o,v=.pointer (some ⟨b,o,none⟩)∧ ∀ j,j <cs.length→ ∃ u,w.cell? ⟨b,o+j,none⟩=some u∧u.oneCell'=true∧VR β S w u (cs.getD j .any):=by
 cases hp <;>simp only[behind]at hb <;>try cases hb
 case ptr id off bi hbi=>
  split at hb
  ·rename_i cells hk
   obtain rfl:=Option.some.inj hb
   obtain⟨bi',h1,h2,_⟩:=hs.hh.hblk id _ hk
   rw[hbi]at h1
   obtain rfl:=Option.some.inj h1
   obtain⟨c,tt,h3,h4,h5,_⟩:=h2
   refine⟨_,_,rfl,fun j hj=>?_⟩
   obtain⟨e,hlt⟩:=zb5 cells off n j hj
   rw[e]
   have h6:=h5 (off+j) hlt
   rw[Nat.zero_add]at h6
   refine⟨c.getD (off+j) undef,?_,h6.2,h6.1⟩
   simp[World.cell?,h3,Array.getD,h4,hlt]
  ·rename_i cells hk
   obtain rfl:=Option.some.inj hb
   obtain⟨bi',h1,h2,_⟩:=hs.hh.hblk id _ hk
   rw[hbi]at h1
   obtain rfl:=Option.some.inj h1
   refine⟨_,_,rfl,fun j hj=>?_⟩
   obtain⟨e,hlt⟩:=zb5 cells off n j hj
   rw[e]
   obtain⟨_,u,h3,h4,h5⟩:=h2 (off+j) hlt
   exact⟨u,h3,h4,VR.up h5⟩
  ·cases hb
 case aptr id i off bi hbi=>
  split at hb
  ·rename_i e es rows wr hk
   obtain⟨bi',h1,h2,_⟩:=hs.hh.hblk id _ hk
   rw[hbi]at h1
   obtain rfl:=Option.some.inj h1
   obtain⟨r,hr,rfl⟩:=Option.map_eq_some_iff.1 hb
   have hi:i <rows.length:=(List.getElem?_eq_some_iff.1 hr).1
   have hrd:rows.getD i []=r:=by rw[List.getD_eq_getElem?_getD,hr];rfl
   obtain⟨h3,h4,c,h5,h6,h7,h8,h9,_⟩:=h2
   refine⟨_,_,rfl,fun j hj=>?_⟩
   obtain⟨e1,hlt⟩:=zb5 r off n j hj
   rw[e1]
   obtain⟨h10,h11⟩:=h9 i hi
   rw[hrd]at h10 h11
   have h12:=h11 (off+j) hlt
   have hsz:i*es+(off+j) <c.size:=by
    rw[h8]
    have:(i+1)*es≤bi.c*es:=Nat.mul_le_mul_right _ (by omega)
    rw[Nat.add_mul]at this
    omega
   refine⟨c.getD (i*es+(off+j)) undef,?_,h12.2,VR.up h12.1⟩
   rw[h3,Nat.add_assoc]
   simp[World.cell?,h5,Array.getD,hsz]
  ·rename_i e es rows hk
   obtain⟨bi',h1,h2,_⟩:=hs.hh.hblk id _ hk
   rw[hbi]at h1
   obtain rfl:=Option.some.inj h1
   obtain⟨r,hr,rfl⟩:=Option.map_eq_some_iff.1 hb
   have hi:i <rows.length:=(List.getElem?_eq_some_iff.1 hr).1
   have hrd:rows.getD i []=r:=by rw[List.getD_eq_getElem?_getD,hr];rfl
   obtain⟨h3,h4,_,h9⟩:=h2
   refine⟨_,_,rfl,fun j hj=>?_⟩
   obtain⟨e1,hlt⟩:=zb5 r off n j hj
   rw[e1]
   obtain⟨h10,h11⟩:=h9 i hi
   rw[hrd]at h10 h11
   obtain⟨_,u,h13,h14,h15⟩:=h11 (off+j) (by omega)
   exact⟨u,by rw[h3,Nat.add_assoc];exact h13,h14,VR.up h15⟩
  ·cases hb
 case eptr b o off row cells h5 h6=>
  refine⟨_,_,rfl,fun j hj=>?_⟩
  obtain⟨e1,hlt⟩:=zb5 row off n j hj
  rw[e1]
  obtain⟨_,h8,h9⟩:=h5 (off+j) hlt
  exact⟨_,by rw[Nat.add_assoc];exact h8,h9,VR.up (h6 _ hlt)⟩
theorem ztd(hty:TyOK P ty){u:Nat}{i:TI}{x:Operand}{p v:AV}(hi:ty u=some i)(ha:i.desc.isAgg=false)(hx:evO s x=some p)(hb:behind s.blk 1 p=some [v])(hd:zt nt d=true):
 OkOp P w0 nt ⟨d,.load u x,t,pos,af,g⟩ s (s.put d v):=
 zaE hd fun β S a w hs=>by
  obtain⟨_,_,_,hI⟩:=hty.get hi
  obtain⟨b,o,hv,hc⟩:=zfR hs (zah hs hx) hb
  obtain⟨c,h1,_,h3⟩:=hc 0 (by simp)
  have hag:=zfZ (w:=w) hI
  rw[ha]at hag
  refine⟨c,?_,h3⟩
  rw[Nat.add_zero]at h1
  simp[execOp,hv,Instr.loadAt,Instr.sureAddr,loadVar,hag,h1]
theorem zoj(hty:TyOK P ty){u:Nat}{i:TI}{x:Operand}{p:AV}{cs:List AV}(hi:ty u=some i)(ha:i.desc.isAgg=true)(hx:evO s x=some p)(hb:behind s.blk i.size p=some cs)
 (hl:Nat.beq cs.length i.size=true) (hd:zt nt d=true):OkOp P w0 nt ⟨d,.load u x,t,pos,af,g⟩ s (s.put d (.agg cs)):=
 zaE hd fun β S a w hs=>by
  obtain⟨ci,_,_,hI⟩:=hty.get hi
  obtain⟨b,o,hv,hc⟩:=zfR hs (zah hs hx) hb
  have hl:=Nat.eq_of_beq_eq_true hl
  have hag:=zfZ (w:=w) hI
  rw[ha]at hag
  have hf: ∃ f:Nat→Value,∀ j,j <cs.length→w.cell? ⟨b,o+j,none⟩=some (f j)∧(f j).oneCell'=true∧VR β S w (f j) (cs.getD j .any):=
   ⟨fun j=>if h:j <cs.length then(hc j h).choose else undef,fun j hj=>by simp only[hj,dif_pos];exact(hc j hj).choose_spec⟩
  obtain⟨f,hf⟩:=hf
  have hld:=run_loadCells (P:=P) w ⟨b,o,none⟩ ci.size f (fun j hj=>by rw[zfu];exact(hf j (by rw[hl, ←hI.size];exact hj)).1)
  refine⟨.agg ((List.range ci.size).map f).toArray,?_,?_⟩
  ·simp[execOp,hv,Instr.loadAt,Instr.sureAddr,loadVar,hag,sizeOf,typeInfo,hI.info,hld]
  ·refine .agg _ _ (by simp[hl,hI.size]) (fun j hj=>?_) (fun j hj=>?_)
   ·have:=(hf j hj).2.2
    have e1:(((List.range ci.size).map f).toArray).getD j undef=f j:=by simp[Array.getD,hI.size, ←hl,hj]
    rw[e1];exact this
   ·have:=(hf j hj).2.1
    simp[Array.getD,hI.size, ←hl,hj,this]
end
end Go.Aw
namespace Go.Aw
open Go.RowKit
def zcM{α:Type}:List α→Option (List α)
 |[]=>some []
 |a::l=>match zcM l with
  |some l'=>some (a::l')
  |none=>none
theorem zcS{α:Type}: ∀ {l l':List α},zcM l=some l'→l=l'
 |[],l',h=>by simpa[zcM]using h
 |a::l,l',h=>by
  unfold zcM at h
  cases e:zcM l with
  |none=>rw[e]at h;cases h
  |some m=>rw[e]at h;rw[zcS e];exact Option.some.inj h
def zds:AV→Option (List AV)
 | .agg cs=>zcM cs
 | .tup _=>none
 | .any=>none
 | .own .. =>none
 |v=>some [v]
theorem zeA{β:Bt}{S:St}{w:World}{v:Value}{x:AV}{cs:List AV}(h:VR β S w v x)(hc:zds x=some cs):v.cells.size=cs.length∧CR β S w v.cells 0 cs:=by
 have one: ∀ {v:Value} {x:AV},VR β S w v x→v.cells= #[v]→v.oneCell'=true→cs=[x]→v.cells.size=cs.length∧CR β S w v.cells 0 cs:=by
  intro v x h e1 e2 e3
  subst e3
  rw[e1]
  refine⟨rfl,fun j hj=>?_⟩
  obtain rfl:j=0:=by simpa using hj
  exact⟨h,e2⟩
 cases h with
 |agg c xs h3 h4 h5=>
  obtain rfl:=zcS hc
  exact⟨h3,fun j hj=>by rw[Nat.zero_add];exact⟨h4 j hj,h5 j hj⟩⟩
 |tup=>cases hc
 |any=>cases hc
 |int k n=>exact one (.int k n) rfl rfl (Option.some.inj hc).symm
 |bool b=>exact one (.bool b) rfl rfl (Option.some.inj hc).symm
 |str b=>exact one (.str b) rfl rfl (Option.some.inj hc).symm
 |nilp=>exact one .nilp rfl rfl (Option.some.inj hc).symm
 |nilf=>exact one .nilf rfl rfl (Option.some.inj hc).symm
 |fn f fi ca xi xa h1 h2 h3 h4=>exact one (.fn f fi ca xi xa h1 h2 h3 h4) rfl rfl (Option.some.inj hc).symm
 |lst0 es full=>exact one (.lst0 es full) rfl rfl (Option.some.inj hc).symm
 |lstZ a es full=>exact one (.lstZ a es full) rfl rfl (Option.some.inj hc).symm
 |lst b o n c es rows full cells h1 h2 h3 h4 h5 h6=>exact one (.lst b o n c es rows full cells h1 h2 h3 h4 h5 h6) rfl rfl (Option.some.inj hc).symm
 |ptr id off bi h=>exact one (.ptr id off bi h) rfl rfl (Option.some.inj hc).symm
 |arr id bi h=>exact one (.arr id bi h) rfl rfl (Option.some.inj hc).symm
 |aptr id i off bi h=>exact one (.aptr id i off bi h) rfl rfl (Option.some.inj hc).symm
 |mp id bi h=>exact one (.mp id bi h) rfl rfl (Option.some.inj hc).symm
 |eptr b o off row cells h5 h6=>exact one (.eptr b o off row cells h5 h6) rfl rfl (Option.some.inj hc).symm
section
variable {P:Program} {ty:Ty} {w0:B0} {nt:Nat} {s:AS} {d:Option Nat} {t:TypeId} {pos:String} {af:Array Edge} {g:Option (Nat×Bool)}
def binI(op:BinOp)(k:IntKind)(a b:Int):Option AV:=match op with
 | .add=>some (.int k (k.wrap (a+b)))
 | .sub=>some (.int k (k.wrap (a-b)))
 | .mul=>some (.int k (k.wrap (a*b)))
 | .eql=>some (.bool (a==b))
 | .neq=>some (.bool (a !=b))
 | .lss=>some (.bool (decide (a <b)))
 | .leq=>some (.bool (decide (a≤b)))
 | .gtr=>some (.bool (decide (b <a)))
 | .geq=>some (.bool (decide (b≤a)))
 |_=>none
theorem zsv{op:BinOp}{k:IntKind}{a b:Int}{x:AV}(h:binI op k a b=some x)(xt:TypeId)(w:World){β:Bt}{S:St}:
 ∃ v,(binOp op xt (.int k a) (.int k b)).run P w=.ok v w∧VR β S w v x:=by
 cases op <;>simp only[binI]at h <;>first|(cases h;done)|(obtain rfl:=Option.some.inj h)
 ·exact⟨_,by simp[binOp,Op.intArith],.int _ _⟩
 ·exact⟨_,by simp[binOp,Op.intArith],.int _ _⟩
 ·exact⟨_,by simp[binOp,Op.intArith],.int _ _⟩
 ·exact⟨_,by simp[binOp,Op.intCmp],.bool _⟩
 ·exact⟨_,by simp[binOp,Op.intCmp],.bool _⟩
 ·exact⟨_,by simp[binOp,Op.intCmp],.bool _⟩
 ·exact⟨_,by simp[binOp,Op.intCmp],.bool _⟩
 ·exact⟨_,by simp[binOp,Op.intCmp],.bool _⟩
 ·exact⟨_,by simp[binOp,Op.intCmp],.bool _⟩
theorem zg2{op:BinOp}{xt yt:TypeId}{x y:Operand}{k:IntKind}{a b:Int}{v:AV}(hx:evO s x=some (.int k a))(hy:evO s y=some (.int k b))(hv:binI op k a b=some v)(hd:zt nt d=true):
 OkOp P w0 nt ⟨d,.binOp op xt x y yt,t,pos,af,g⟩ s (s.put d v):=
 zaE hd fun β S ac w hs=>by
  have h1:=zah hs hx
  have h2:=zah hs hy
  generalize e1:ac.eval x=cv at h1
  generalize e2:ac.eval y=dv at h2
  cases h1
  cases h2
  obtain⟨v,h3,h4⟩:=zsv (P:=P) hv xt w (β:=β) (S:=S)
  refine⟨v,?_,h4⟩
  have hg:(eqGuard op xt x y (.int k a) (.int k b)).run P w=.ok () w:=by
   unfold eqGuard
   cases op <;>simp
  simp[execOp,e1,e2,hg,h3]
theorem zuR{xt yt:TypeId}{x y:Operand}{a b:Bool}(hu:P.underlying xt=some .bool)(hx:evO s x=some (.bool a))(hy:evO s y=some (.bool b))(hd:zt nt d=true):
 OkOp P w0 nt ⟨d,.binOp .eql xt x y yt,t,pos,af,g⟩ s (s.put d (.bool (a==b))):=
 zaE hd fun β S ac w hs=>by
  have h1:=zah hs hx
  have h2:=zah hs hy
  generalize e1:ac.eval x=cv at h1
  generalize e2:ac.eval y=dv at h2
  cases h1
  cases h2
  refine⟨.bool (a==b),?_,.bool _⟩
  have hg:(eqGuard .eql xt x y (.bool a) (.bool b)).run P w=.ok () w:=by simp[eqGuard]
  have he: ∀ k,(Op.equalIn (k+1) xt (.bool a) (.bool b)).run P w=.ok (a==b) w:=by intro k;simp[Op.equalIn,run_underlying hu]
  have he2:(Op.equal xt (.bool a) (.bool b)).run P w=.ok (a==b) w:=he 9999
  simp[execOp,e1,e2,hg,binOp,he2]
theorem zuK{xt:TypeId}{x:Operand}{a:Bool}(hx:evO s x=some (.bool a))(hd:zt nt d=true):
 OkOp P w0 nt ⟨d,.unOp .not xt x,t,pos,af,g⟩ s (s.put d (.bool (!a))):=
 zaE hd fun β S ac w hs=>by
  have h1:=zah hs hx
  generalize e1:ac.eval x=cv at h1
  cases h1
  exact⟨.bool (!a),by simp[execOp,e1,Op.unary],.bool _⟩
theorem zoY{x:Operand}{vs:List AV}{i:Nat}{v:AV}(hx:evO s x=some (.tup vs))(hi:vs[i]? =some v)(hd:zt nt d=true):
 OkOp P w0 nt ⟨d,.extract x i,t,pos,af,g⟩ s (s.put d v):=
 zaE hd fun β S ac w hs=>by
  have h1:=zah hs hx
  generalize e1:ac.eval x=cv at h1
  cases h1
  rename_i cs h2 h3
  have hlt:i <vs.length:=(List.getElem?_eq_some_iff.1 hi).1
  refine⟨cs.getD i undef,?_,?_⟩
  ·have:i <cs.size:=by omega
   simp[execOp,e1,Instr.extract,this,Array.getD]
  ·have:=h3 i hlt
   rwa[List.getD_eq_getElem?_getD,hi]at this
theorem zmR{x:Operand}{p:AV}(hx:evO s x=some p)(hp:(mvP 0 p).isSome=true)(hd:zt nt d=true):
 OkOp P w0 nt ⟨d,.nilCheck x,t,pos,af,g⟩ s (s.put d p):=
 zaE hd fun β S ac w hs=>by
  have h1:=zah hs hx
  obtain⟨q,hq⟩:=Option.isSome_iff_exists.1 hp
  obtain⟨b,o,e,_⟩:=zsw h1 hq
  refine⟨ac.eval x,?_,h1⟩
  simp[execOp,e]
def zjO(blk:Bk):AV→Option Nat
 | .lst _ rows _=>some rows.length
 | .str s=>some s.size
 | .arr id=>match blk id with
   |some (.ar _ _ _ rows _)=>some rows.length
   |some (.ro _ _ rows)=>some rows.length
   |_=>none
 |_=>none
theorem znJ{w:World}{β:Bt}{S:St}{a:Act}(hs:SR w0 nt β S s a w){v:Value}{x:AV}(hv:VR β S w v x){n:Nat}(hn:zjO s.blk x=some n):
 (∃ ad c,v=.slice ad n c)∨ ∃ b,v=.string b∧b.size=n:=by
 cases hv <;>simp only[zjO]at hn <;>try cases hn
 ·exact .inr ⟨_,rfl,rfl⟩
 ·exact .inl ⟨_,_,rfl⟩
 ·exact .inl ⟨_,_,rfl⟩
 ·rename_i h1 _ _ _ _ _;subst h1;exact .inl ⟨_,_,rfl⟩
 ·rename_i id bi hbi
  split at hn
  ·rename_i hk
   obtain⟨bi',h1,h2,_⟩:=hs.hh.hblk id _ hk
   rw[hbi]at h1
   obtain rfl:=Option.some.inj h1
   obtain rfl:=Option.some.inj hn
   exact .inl ⟨_,_,by rw[h2.2.1]⟩
  ·rename_i hk
   obtain⟨bi',h1,h2,_⟩:=hs.hh.hblk id _ hk
   rw[hbi]at h1
   obtain rfl:=Option.some.inj h1
   obtain rfl:=Option.some.inj hn
   exact .inl ⟨_,_,by rw[h2.2.1]⟩
  ·cases hn
theorem zu2{u e:TypeId}{x:Operand}{p:AV}{n:Nat}(hu:P.underlying u=some (.slice e))(hx:evO s x=some p)(hn:zjO s.blk p=some n)(hp:(match p with| .str _=>false|_=>true)=true)(hd:zt nt d=true):
 OkOp P w0 nt ⟨d,.call {callee:=.builtin .len,args:= #[x],argTypes:= #[u]},t,pos,af,g⟩ s (s.put d (.int .i64 n)):=
 zaE hd fun β S ac w hs=>by
  have h1:=zah hs hx
  rcases znJ hs h1 hn with⟨ad,c,e⟩|⟨b,e,_⟩
  ·exact⟨.int .i64 n,by simp[execOp,resolve,invoke,builtin,Builtin.len_,e,run_underlying hu,goInt],.int _ _⟩
  ·rw[e]at h1
   cases h1 <;>simp[zjO]at hn hp
theorem zh0{w w':World}{β:Bt}{S:St}{a:Act}{id:Nat}{k:AB}{x:AV}{v:Value}(hs:SR w0 nt β S s a w)(hB:Below w.heap.size w w')(hid:s.blk id=none)(hd:zt nt d=true)
 {bi:BI} (hb:w.heap.size≤bi.b) (hk:BR (upd β id bi) S w' bi k) (hv: ∀ {β'},β' id=some bi→VR β' S w' v x):
 SR w0 nt (upd β id bi) S ((s.setB id k).put d x) (a.put d v) w':=by
 have hn:=hs.hh.new hB hid (k:=k) (bi:=bi) (S':=S) (fun b o=>⟨.inl,fun h=>h.elim (fun q=>q) (fun q=>q.2.2)⟩) hb hk
 have h1:SR w0 nt (upd β id bi) S (s.setB id k) a w':=⟨hn.1,fun u y q=>hn.2 (hs.henv u y q),hs.hsize,hs.hdefers⟩
 exact h1.put hd (hv (zR β id bi))
theorem zbM(w:World)(o:Obj):Below w.heap.size w (w.alloc o):=(Below.refl _ _).alloc (Nat.le_refl _) o
theorem zuD{u:Nat}{x:Operand}{v:AV}(id:Nat){cs:List AV}(hid:s.blk id=none)(hx:evO s x=some v)(hc:zds v=some cs)(hd:zt nt d=true):
 OkOp P w0 nt ⟨d,.box u x,t,pos,af,g⟩ s ((s.setB id (.box cs)).put d (.ptr id 0)):=by
 intro β S a w next Q hs hn
 have h1:=zah hs hx
 have h2:(a.eval x).cells.size=cs.length∧CR β S w (a.eval x).cells 0 cs:=zeA h1 hc
 have hr:(execOp a.eval ⟨d,.box u x,t,pos,af,g⟩).run P w=.ok (.value (.pointer (some ⟨w.heap.size,0,none⟩))) (w.alloc (.cells (a.eval x).cells u)):=by
  simp[execOp,Instr.box,newVar,newRow]
 unfold Oper.wp
 rw[hr]
 have hB:=zbM w (.cells (a.eval x).cells u)
 refine hn _ _ _ _ (zh0 hs hB hid hd (bi:=⟨w.heap.size,0,0,0⟩) (Nat.le_refl _) ⟨(a.eval x).cells,u,heap_alloc_new w _,h2.1,?_,fun o q=>?_,fun _ q=>by cases q⟩ (fun h=>.ptr _ _ _ h))
 ·refine h2.2.mono (fun i b q=>?_) (fun b o q=>⟨q,zch hB (hs.hh.hlt b o q)⟩)
  by_cases e:i=id
  ·subst e
   obtain⟨k,hk⟩:=hs.hh.hdom i b q
   rw[hid]at hk;cases hk
  ·rw[zJ _ _ e];exact q
 ·exact absurd (hs.hh.hlt _ _ q) (Nat.lt_irrefl _)
theorem zs1(hty:TyOK P ty){u:Nat}{i:TI}(id:Nat)(hi:ty u=some i)(hid:s.blk id=none)(hd:zt nt d=true):
 OkOp P w0 nt ⟨d,.alloc u,t,pos,af,g⟩ s ((s.setB id (.box i.zero)).put d (.ptr id 0)):=by
 intro β S a w next Q hs hn
 obtain⟨ci,_,z,hI⟩:=hty.get hi
 have hr:(execOp a.eval ⟨d,.alloc u,t,pos,af,g⟩).run P w=.ok (.value (.pointer (some ⟨w.heap.size,0,none⟩))) (w.alloc (.cells z.cells u)):=by
  simp[execOp,Instr.alloc,newVar,newRow,zeroValue,typeInfo,hI.info,hI.zero]
 unfold Oper.wp
 rw[hr]
 refine hn _ _ _ _ (zh0 hs (zbM w _) hid hd (bi:=⟨w.heap.size,0,0,0⟩) (Nat.le_refl _) ⟨z.cells,u,heap_alloc_new w _,?_,fun j hj=>?_,fun o q=>?_,fun _ q=>by cases q⟩ (fun h=>.ptr _ _ _ h))
 ·have:=(zcU (β:=β) (S:=S) (w:=w) hI.zs).1
  simpa using this
 ·have:=(zcU (β:=upd β id ⟨w.heap.size,0,0,0⟩) (S:=S) (w:=w.alloc (.cells z.cells u)) hI.zs).2 j hj
  simpa[Array.getD_eq_getD_getElem?,List.getD_eq_getElem?_getD]using this
 ·exact absurd (hs.hh.hlt _ _ q) (Nat.lt_irrefl _)
end
end Go.Aw
namespace Go.Aw
open Go.RowKit
theorem zag(cs:Array Value)(j:Nat):cs.toList.getD j undef=cs.getD j undef:=by
 simp[Array.getD_eq_getD_getElem?,List.getD_eq_getElem?_getD]
def setAt{α:Type}(l:List α)(o:Nat)(vs:List α):List α:=l.take o++vs++l.drop (o+vs.length)
theorem zdW{α:Type}(l:List α)(o:Nat)(vs:List α)(d:α)(h:o+vs.length≤l.length)(j:Nat):
 (setAt l o vs).getD j d=if o≤j∧j <o+vs.length then vs.getD (j-o) d else l.getD j d:=by
 unfold setAt
 simp only[List.getD_eq_getElem?_getD]
 have ho:(l.take o).length=o:=by rw[List.length_take];omega
 by_cases h1:j <o
 ·rw[List.append_assoc,List.getElem?_append_left (by omega),List.getElem?_take,if_pos h1,if_neg (by omega)]
 ·by_cases h2:j <o+vs.length
  ·rw[if_pos ⟨by omega,h2⟩,List.append_assoc,List.getElem?_append_right (by omega),ho,List.getElem?_append_left (by omega)]
  ·rw[if_neg (by omega),List.getElem?_append_right (by rw[List.length_append];omega),List.length_append,ho,List.getElem?_drop]
   congr 2
   omega
theorem zbL{α:Type}(l:List α)(o:Nat)(vs:List α)(h:o+vs.length≤l.length):(setAt l o vs).length=l.length:=by
 unfold setAt
 simp only[List.length_append,List.length_take,List.length_drop]
 omega
theorem HR.write{w0:B0}{w w':World}{β:Bt}{S:St}{blk:Bk}(h:HR w0 β S blk w){id:Nat}{k k':AB}{bi:BI}(hk:blk id=some k)(hl:k.live=true)(hbi:β id=some bi)
 (hS: ∀ o,¬S bi.b o) (hsz:w'.heap.size=w.heap.size) (hot: ∀ b,b≠bi.b→w'.heap[b]? =w.heap[b]?) (hos:w'.os=w.os) (htp:w'.tape=w.tape) (hout:w'.output=w.output)
 (hnew:(∀ {v x},VR β S w v x→VR β S w' v x)→BR β S w' bi k'):
 HR w0 β S (upd blk id k') w'∧ ∀ {v x},VR β S w v x→VR β S w' v x:=by
 have hSm: ∀ b o,S b o→S b o∧w'.cell? ⟨b,o,none⟩=w.cell? ⟨b,o,none⟩:=fun b o q=>⟨q,World.cell?_of_block (hot b (fun e=>hS o (e▸q)))⟩
 have hv: ∀ {v x},VR β S w v x→VR β S w' v x:=fun q=>q.mono (fun _ _ q=>q) hSm
 obtain⟨bi2,e1,_,hge⟩:=h.hblk id k hk
 rw[hbi]at e1
 obtain rfl:=Option.some.inj e1
 refine⟨⟨?_,?_,?_,h.hold,h.hnew,fun b o q=>by rw[hsz];exact h.hlt b o q,?_⟩,hv⟩
 ·intro i kk q
  by_cases e:i=id
  ·subst e
   have:some k'=some kk:=(zR blk i k').symm.trans q
   obtain rfl:=Option.some.inj this
   exact⟨bi,hbi,hnew hv,fun _=>hge hl⟩
  ·rw[zJ blk k' e]at q
   obtain⟨b2,h1,h2,h3⟩:=h.hblk i kk q
   exact⟨b2,h1,h2.ext (fun _ _ q=>q) hSm (fun hl2=>hot _ (fun eb=>h.hinj i id b2 bi kk k e q hl2 hk hl h1 hbi eb)) (fun _ _ q=>q),h3⟩
 ·intro i b q
  by_cases e:i=id
  ·subst e;exact⟨k',zR blk i k'⟩
  ·obtain⟨k2,hk2⟩:=h.hdom i b q
   exact⟨k2,by rw[zJ blk k' e];exact hk2⟩
 ·intro i j b1 b2 k1 k2 hne q1 l1 q2 l2 p1 p2
  by_cases ei:i=id
  ·subst ei
   rw[zJ blk k' (fun e=>hne e.symm)]at q2
   exact h.hinj i j b1 b2 k k2 hne hk hl q2 l2 p1 p2
  ·rw[zJ blk k' ei]at q1
   by_cases ej:j=id
   ·subst ej
    exact h.hinj i j b1 b2 k1 k hne q1 l1 hk hl p1 p2
   ·rw[zJ blk k' ej]at q2
    exact h.hinj i j b1 b2 k1 k2 hne q1 l1 q2 l2 p1 p2
 ·refine⟨hos.trans h.hbelow.os,htp.trans h.hbelow.tape,hout.trans h.hbelow.output,by rw[hsz];exact h.hbelow.size,fun b hb=>?_⟩
  rw[hot b (fun e=>hge hl (e▸hb))]
  exact h.hbelow.block b hb
section
variable {P:Program} {ty:Ty} {w0:B0} {nt:Nat} {s:AS} {d:Option Nat} {t:TypeId} {pos:String} {af:Array Edge} {g:Option (Nat×Bool)}
theorem zkM(hty:TyOK P ty){u:Nat}{i:TI}{x y:Operand}{id off:Nat}{v:AV}{pin:Option BI}{cells vs cells':List AV}(hi:ty u=some i)(hx:evO s x=some (.ptr id off))(hy:evO s y=some v)
 (hb:s.blk id=some (.bx pin cells)) (hv:zds v=some vs) (hl:Nat.beq vs.length i.size=true) (ho:Nat.ble (off+vs.length) cells.length=true) (hc:zcM (setAt cells off vs)=some cells'):
 OkOp P w0 nt ⟨none,.store u x y,t,pos,af,g⟩ s (s.setB id (.bx pin cells')):=by
 intro β S a w next Q hs hn
 have hl:=Nat.eq_of_beq_eq_true hl
 have ho:off+vs.length≤cells.length:=Nat.le_of_ble_eq_true ho
 obtain rfl:=zcS hc
 obtain⟨ci,_,_,hI⟩:=hty.get hi
 have h1:=zah hs hx
 have h2:=zah hs hy
 generalize e1:a.eval x=ax at h1
 cases h1
 rename_i bi hbi
 obtain⟨bi2,e2,h3,h4⟩:=hs.hh.hblk id _ hb
 rw[hbi]at e2
 obtain rfl:=Option.some.inj e2
 obtain⟨cs,ct,h5,h6,h7,h8⟩:=h3
 obtain⟨h9,h10⟩:=zeA h2 hv
 have hst:=run_storeCells_at P bi.b off ct (a.eval y).cells.toList 0 cs w h5 (by simp;omega) (by
  intro q hq
  obtain⟨j,hj,rfl⟩:=List.mem_iff_getElem.1 hq
  have:=(h10 j (by rw[←h9];simpa using hj)).2
  rw[Nat.zero_add]at this
  have e:(a.eval y).cells.getD j undef=(a.eval y).cells.toList[j]:=by
   simp at hj
   simp[Array.getD,hj]
  rwa[e]at this)
 have h9':(a.eval y).cells.toList.length=vs.length:=by simpa using h9
 have ho':off+(a.eval y).cells.toList.length≤cs.toList.length:=by rw[h9'];simpa[h6]using ho
 simp only[Nat.add_zero]at hst
 obtain⟨row,hrow⟩: ∃ row:Array Value,row=(cs.toList.take off++(a.eval y).cells.toList++cs.toList.drop (off+(a.eval y).cells.toList.length)).toArray:=⟨_,rfl⟩
 rw[←hrow]at hst
 have hrow':row=(setAt cs.toList off (a.eval y).cells.toList).toArray:=hrow
 have hrs:row.size=cells.length:=by rw[hrow',List.size_toArray,zbL _ _ _ ho', ←h6];simp
 have hrd: ∀ j,row.getD j undef=if off≤j∧j <off+vs.length then(a.eval y).cells.getD (j-off) undef else cs.getD j undef:=by
  intro j
  rw[←zag,hrow',List.toList_toArray,zdW _ _ _ _ ho',h9']
  split <;>rw[zag]
 have hr:(execOp a.eval ⟨none,.store u x y,t,pos,af,g⟩).run P w=.ok .skip (w.setRow bi.b row):=by
  have:(a.eval y).cells.size=ci.size:=by rw[h9,hl,hI.size]
  simp[execOp,e1,Instr.storeAt,Instr.sureAddr,storeVar,sizeOf,typeInfo,hI.info,this]at hst⊢
  rw[hst]
  rfl
 unfold Oper.wp
 rw[hr]
 have hw:=hs.hh.write (k':=.bx pin (setAt cells off vs)) hb rfl hbi h8.1 (w':=w.setRow bi.b row)
  (by simp) (fun b hb=>setRow_other w _ _ _ hb) rfl rfl rfl (fun hm=>⟨row,ct,setRow_heap w _ cs _ ct _ h5,by rw[zbL _ _ _ ho,hrs],fun j hj=>by
    rw[zbL _ _ _ ho]at hj
    rw[zdW _ _ _ _ ho,Nat.zero_add,hrd]
    split
    ·have:=h10 (j-off) (by omega)
     rw[Nat.zero_add]at this
     exact⟨hm this.1,this.2⟩
    ·have:=h7 j (by omega)
     rw[Nat.zero_add]at this
     exact⟨hm this.1,this.2⟩,h8⟩)
 exact hn β S _ _ ⟨hw.1,fun q z hz=>hw.2 (hs.henv q z hz),hs.hsize,hs.hdefers⟩
end
end Go.Aw
namespace Go.Aw
open Go.RowKit
section
variable {P:Program} {ty:Ty} {w0:B0} {nt:Nat} {s:AS} {d:Option Nat} {t:TypeId} {pos:String} {af:Array Edge} {g:Option (Nat×Bool)}
theorem zil{w:World}{u e:Nat}{ci:TypeInfo}(hu:P.underlying u=some (.slice e))(hi:P.info? e=some ci)(b o n c:Nat)(k:IntKind)(i:Int)(h0:0≤i)(h1:i.toNat <n):
 (Instr.indexAt u (.slice (some ⟨b,o,none⟩) n c) (.int k i)).run P w=.ok (.pointer (some ⟨b,o+i.toNat*ci.size,none⟩)) w:=by
 have h2:i <(n:Int):=by omega
 simp[Instr.indexAt,run_underlying hu,asIntOf,h0,h2,sizeOf,typeInfo,hi,zfu]
theorem zrd(hty:TyOK P ty){u e:Nat}{ui ei:TI}{x y:Operand}{es:Nat}{rows:List (List AV)}{row:List AV}{full:Bool}{k:IntKind}{i:Int}(hui:ty u=some ui)(hd1:ui.desc=.slice e)(hei:ty e=some ei)
 (hx:evO s x=some (.lst es rows full)) (hy:evO s y=some (.int k i)) (hes:Nat.beq es ei.size=true) (h0:0≤i) (hr:rows[i.toNat]? =some row) (hd:zt nt d=true):
 OkOp P w0 nt ⟨d,.indexAddr u x y,t,pos,af,g⟩ s (s.put d (.eptr row 0)):=
 zaE hd fun β S a w hs=>by
  have hes:=Nat.eq_of_beq_eq_true hes
  have h1:=zah hs hx
  have h2:=zah hs hy
  obtain⟨_,_,_,hU⟩:=hty.get hui
  obtain⟨ci,_,_,hE⟩:=hty.get hei
  generalize e1:a.eval x=cx at h1
  generalize e2:a.eval y=cy at h2
  cases h2
  have hlt:i.toNat <rows.length:=(List.getElem?_eq_some_iff.1 hr).1
  cases h1 with
  |lst0=>simp at hlt
  |lstZ=>simp at hlt
  |lst b o n c _ _ _ cells q1 q2 q3 q4 q5 q6=>
   have hrd:rows.getD i.toNat []=row:=by rw[List.getD_eq_getElem?_getD,hr];rfl
   have hl:=q4 i.toNat (by omega)
   rw[hrd]at hl
   refine⟨.pointer (some ⟨b,o+i.toNat*es+0,none⟩),?_,.eptr b (o+i.toNat*es) 0 row (cells i.toNat) (fun j hj=>q5 i.toNat j (by omega) (by omega)) (fun j hj=>?_)⟩
   ·have:=zil (P:=P) (w:=w) (hU.slice hd1) hE.info b o n c k i h0 (by omega)
    simp[execOp,e1,e2,this,hE.size,hes]
   ·have:=q6 i.toNat j (by omega) (by omega)
    rwa[hrd]at this
theorem zq1(hty:TyOK P ty){u e:Nat}{ui ei:TI}{x y:Operand}{id n:Nat}{k:IntKind}{i:Int}(hui:ty u=some ui)(hd1:ui.desc=.slice e)(hei:ty e=some ei)
 (hx:evO s x=some (.arr id)) (hy:evO s y=some (.int k i)) (hes:(match s.blk id with|some (.ar _ _ es _ _)=>Nat.beq es ei.size|some (.ro _ es _)=>Nat.beq es ei.size|_=>false)=true)
 (hn:zjO s.blk (.arr id)=some n) (h0:0≤i) (h1:i <n) (hd:zt nt d=true):
 OkOp P w0 nt ⟨d,.indexAddr u x y,t,pos,af,g⟩ s (s.put d (.aptr id i.toNat 0)):=
 zaE hd fun β S a w hs=>by
  have h2:=zah hs hx
  have h3:=zah hs hy
  obtain⟨_,_,_,hU⟩:=hty.get hui
  obtain⟨ci,_,_,hE⟩:=hty.get hei
  generalize e1:a.eval x=cx at h2
  generalize e2:a.eval y=cy at h3
  cases h3
  cases h2
  rename_i bi hbi
  have key:bi.es=ei.size∧bi.n=n:=by
   simp only[zjO]at hn
   split at hn
   ·rename_i hk
    obtain⟨bi',q1,q2,_⟩:=hs.hh.hblk id _ hk
    rw[hbi]at q1
    obtain rfl:=Option.some.inj q1
    rw[hk]at hes
    exact⟨q2.1.trans (Nat.eq_of_beq_eq_true hes),q2.2.1.trans (Option.some.inj hn)⟩
   ·rename_i hk
    obtain⟨bi',q1,q2,_⟩:=hs.hh.hblk id _ hk
    rw[hbi]at q1
    obtain rfl:=Option.some.inj q1
    rw[hk]at hes
    exact⟨q2.1.trans (Nat.eq_of_beq_eq_true hes),q2.2.1.trans (Option.some.inj hn)⟩
   ·cases hn
  refine⟨.pointer (some ⟨bi.b,i.toNat*bi.es+0,none⟩),?_,.aptr _ _ _ _ hbi⟩
  have:=zil (P:=P) (w:=w) (hU.slice hd1) hE.info bi.b 0 bi.n bi.c k i h0 (by omega)
  simp[execOp,e1,e2,this,hE.size,key.1]
theorem zjC(off:Nat): ∀ (l:List Value) (k:Nat) (cs:Array Value),off+k+l.length≤cs.size→
 ((l.zipIdx k).foldl (fun cs (c,j)=>cs.setIfInBounds (off+j) c) cs).size=cs.size∧
 ∀ m,((l.zipIdx k).foldl (fun cs (c,j)=>cs.setIfInBounds (off+j) c) cs).getD m undef=if off+k≤m∧m <off+k+l.length then l.getD (m-(off+k)) undef else cs.getD m undef
 |[],k,cs,_=>⟨rfl,fun m=>by rw[if_neg (by simp)];rfl⟩
 |v::l,k,cs,h=>by
  simp only[List.length_cons]at h
  have ih:=zjC off l (k+1) (cs.setIfInBounds (off+k) v) (by simp;omega)
  simp only[List.zipIdx_cons,List.foldl_cons]
  refine⟨by rw[ih.1];simp,fun m=>?_⟩
  rw[ih.2 m]
  by_cases h1:off+(k+1)≤m∧m <off+(k+1)+l.length
  ·rw[if_pos h1,if_pos (by simp;omega)]
   have:m-(off+k)=(m-(off+(k+1)))+1:=by omega
   rw[this];rfl
  ·rw[if_neg h1]
   by_cases h2:m=off+k
   ·subst h2
    rw[if_pos (by simp),zgg _ _ _ _ (by omega)]
    simp
   ·rw[zfG _ _ _ h2,if_neg (by simp;omega)]
def bldA(pl:Nat→Option (Nat×Nat))(cells:List AV):List (Nat×AV)→Option (List AV)
 |[]=>zcM cells
 |(i,x)::rest=>match pl i with
  |some (o,sz)=>match zds x with
   |some vs=>match Nat.beq vs.length sz&&Nat.ble (o+vs.length) cells.length with
    |true=>bldA pl (setAt cells o vs) rest
    |false=>none
   |none=>none
  |none=>none
theorem zqF{β:Bt}{S:St}{w:World}{pl:Nat→Option (Nat×Nat)}: ∀ {ps:List (Nat×Value)} {xs:List (Nat×AV)} {cs:Array Value} {cells cells':List AV},cs.size=cells.length→CR β S w cs 0 cells→
 ps.length=xs.length→(∀ (j:Nat) (p:Nat×Value) (x:Nat×AV),ps[j]? =some p→xs[j]? =some x→p.1=x.1∧VR β S w p.2 x.2)→bldA pl cells xs=some cells'→
 ∃ cs',Instr.fill pl cs ps=some cs'∧cs'.size=cells'.length∧CR β S w cs' 0 cells'
 |[],[],cs,cells,cells',h1,h2,_,_,h5=>by
  have:=zcS (l:=cells) h5
  subst this
  exact⟨cs,rfl,h1,h2⟩
 |(i,v)::ps,(i',x)::xs,cs,cells,cells',h1,h2,h3,h4,h5=>by
  obtain⟨e,hv⟩:=h4 0 _ _ rfl rfl
  simp only at e hv
  subst e
  unfold bldA at h5
  cases hp:pl i with
  |none=>rw[hp]at h5;cases h5
  |some q=>
   obtain⟨o,sz⟩:=q
   rw[hp]at h5
   cases hc:zds x with
   |none=>simp[hc]at h5
   |some vs=>
    simp only[hc]at h5
    cases hb:(Nat.beq vs.length sz&&Nat.ble (o+vs.length) cells.length)with
    |false=>rw[hb]at h5;cases h5
    |true=>
     rw[hb]at h5
     rw[Bool.and_eq_true]at hb
     have b1:=Nat.eq_of_beq_eq_true hb.1
     have b2:=Nat.le_of_ble_eq_true hb.2
     obtain⟨c1,c2⟩:=zeA hv hc
     have hf:=zjC o v.cells.toList 0 cs (by simp;omega)
     simp only[Nat.add_zero]at hf
     obtain⟨cs',r1,r2,r3⟩:=zqF (ps:=ps) (xs:=xs) (cs:=(v.cells.toList.zipIdx.foldl (fun cs (c,j)=>cs.setIfInBounds (o+j) c) cs)) (cells:=setAt cells o vs) (by rw[hf.1,zbL _ _ _ b2,h1])
      (fun j hj=>by
        rw[zbL _ _ _ b2]at hj
        rw[Nat.zero_add,hf.2 j,zdW _ _ _ _ b2]
        have e:v.cells.toList.length=vs.length:=by simpa using c1
        rw[e]
        split
        ·rw[zag]
         have:=c2 (j-o) (by omega)
         rwa[Nat.zero_add]at this
        ·have:=h2 j hj
         rwa[Nat.zero_add]at this) (by simpa using h3) (fun j p x hp hx=>h4 (j+1) p x (by simpa using hp) (by simpa using hx)) h5
     refine⟨cs',?_,r2,r3⟩
     unfold Instr.fill
     rw[hp]
     have n1: ¬(v.cells.size≠sz∨o+v.cells.size>cs.size):=by omega
     simp only[ne_eq,gt_iff_lt,Bool.or_eq_true,decide_eq_true_eq]
     rw[if_neg (by simpa using n1)]
     rw[←Array.foldl_toList,Array.toList_zipIdx]
     exact r1
def zcN(s:AS):List (Nat×Operand)→Option (List (Nat×AV))
 |[]=>some []
 |(i,x)::l=>match evO s x,zcN s l with
  |some v,some r=>some ((i,v)::r)
  |_,_=>none
theorem zgE{w:World}{β:Bt}{S:St}{a:Act}(hs:SR w0 nt β S s a w): ∀ {l:List (Nat×Operand)} {xs:List (Nat×AV)},zcN s l=some xs→l.length=xs.length∧
 ∀ (j:Nat) (p:Nat×Value) (x:Nat×AV),(l.map fun q=>(q.1,a.eval q.2))[j]? =some p→xs[j]? =some x→p.1=x.1∧VR β S w p.2 x.2
 |[],xs,h=>by
  obtain rfl:=Option.some.inj h
  exact⟨rfl,fun j p x hp=>by simp at hp⟩
 |(i,y)::l,xs,h=>by
  unfold zcN at h
  split at h
  ·rename_i v r hv hr
   obtain rfl:=Option.some.inj h
   obtain⟨h1,h2⟩:=zgE hs hr
   refine⟨by simp[h1],fun j p x hp hx=>?_⟩
   cases j with
   |zero=>
    simp at hp hx
    obtain rfl:=hp
    obtain rfl:=hx
    exact⟨rfl,zah hs hv⟩
   |succ j=>exact h2 j p x (by simpa using hp) (by simpa using hx)
  ·cases h
def plS(ty:Ty)(fs:List (Nat×Nat))(i:Nat):Option (Nat×Nat):=match fs[i]? with
 |some (off,ft)=>match ty ft with
  |some fi=>some (off,fi.size)
  |none=>none
 |none=>none
end
end Go.Aw
namespace Go.Aw
open Go.RowKit
section
variable {P:Program} {ty:Ty} {w0:B0} {nt:Nat} {s:AS} {d:Option Nat} {t:TypeId} {pos:String} {af:Array Edge} {g:Option (Nat×Bool)}
theorem zsS(hty:TyOK P ty){u:Nat}{i:TI}{fs:List (Nat×Nat)}{parts:Array (Nat×Operand)}{xs:List (Nat×AV)}{cells:List AV}(hi:ty u=some i)(hd1:i.desc=.struct fs)
 (hp:zcN s parts.toList=some xs) (hb:bldA (fun k=>i.pl[k]?) i.zero xs=some cells) (hd:zt nt d=true):
 OkOp P w0 nt ⟨d,.build u parts,t,pos,af,g⟩ s (s.put d (.agg cells)):=
 zaE hd fun β S a w hs=>by
  obtain⟨ci,dd,z,hI⟩:=hty.get hi
  obtain⟨F,hu,_⟩:=hI.struct hd1
  have hdd:dd=.struct F:=Option.some.inj (hI.und.symm.trans hu)
  have hz:=zcU (β:=β) (S:=S) (w:=w) hI.zs
  obtain⟨e1,e2⟩:=zgE hs hp
  obtain⟨cs',r1,r2,r3⟩:=zqF (β:=β) (S:=S) (w:=w) (cs:=z.cells) (cells:=i.zero) (ps:=parts.toList.map fun q=>(q.1,a.eval q.2)) (by simpa using hz.1)
   (fun j hj=>by
     have:=hz.2 j hj
     rw[zag]at this
     rwa[Nat.zero_add]) (by simpa using e1) e2 hb
  have hpl:=hI.pls
  rw[hdd]at hpl
  have hbu:P.built u ((parts.map fun q=>(q.1,a.eval q.2)).toList)=some cs':=by
   unfold Program.built
   simp only[hI.info,hu,hI.zero]
   have hpl:F.toList.mapM (fun f=>(P.info? f.type).map fun i=>(f.offset,i.size))=some i.pl:=hpl
   rw[hpl]
   simpa using r1
  refine⟨.agg cs',?_,.agg _ _ r2 (fun j hj=>?_) (fun j hj=>?_)⟩
  ·have:=run_build w u _ cs' hbu
   simp[execOp,this]
  ·have:=(r3 j hj).1;rwa[Nat.zero_add]at this
  ·have:=(r3 j hj).2;rwa[Nat.zero_add]at this
def rowsA(n sz:Nat):Nat→List (Nat×AV)→Option (List (List AV))
 |k,[]=>match Nat.beq k n with
  |true=>some []
  |false=>none
 |k,(i,x)::rest=>match Nat.beq i k,zds x,rowsA n sz (k+1) rest with
  |true,some vs,some r=>match Nat.beq vs.length sz&&vs.all zaj with
   |true=>some (vs::r)
   |false=>none
  |_,_,_=>none
theorem znp{β:Bt}{S:St}{w:World}{n sz:Nat}: ∀ {k:Nat} {ps:List (Nat×Value)} {xs:List (Nat×AV)} {rows:List (List AV)} {cs:Array Value},cs.size=n*sz→rowsA n sz k xs=some rows→
 ps.length=xs.length→(∀ (j:Nat) (p:Nat×Value) (x:Nat×AV),ps[j]? =some p→xs[j]? =some x→p.1=x.1∧VR β S w p.2 x.2)→
 k+rows.length=n∧ ∃ cs',Instr.fill (fun i=>some (i*sz,sz)) cs ps=some cs'∧cs'.size=n*sz∧(∀ m,m <k*sz→cs'.getD m undef=cs.getD m undef)∧
  ∀ i,i <rows.length→(rows.getD i []).length=sz∧CR nb S w cs' ((k+i)*sz) (rows.getD i [])
 |k,[],[],rows,cs,h1,h2,_,_=>by
  simp only[rowsA]at h2
  split at h2
  ·rename_i hb
   obtain rfl:=Option.some.inj h2
   exact⟨Nat.eq_of_beq_eq_true hb,cs,rfl,h1,fun _ _=>rfl,fun i hi=>by simp at hi⟩
  ·cases h2
 |k,(i',v)::ps,(i,x)::xs,rows,cs,h1,h2,h3,h4=>by
  obtain⟨e,hv⟩:=h4 0 _ _ rfl rfl
  simp only at e hv
  subst e
  simp only[rowsA]at h2
  split at h2
  ·rename_i vs r hb hc hr
   split at h2
   ·rename_i hl
    obtain rfl:=Option.some.inj h2
    obtain rfl:i'=k:=Nat.eq_of_beq_eq_true hb
    rw[Bool.and_eq_true]at hl
    have hcl:=hl.2
    have hl:=Nat.eq_of_beq_eq_true hl.1
    obtain⟨c1,c2⟩:=zeA hv hc
    have hn:i'+1+r.length=n:=by
     have: ∀ {k:Nat} {xs:List (Nat×AV)} {r:List (List AV)},rowsA n sz k xs=some r→k+r.length=n:=by
      intro k xs
      induction xs generalizing k with
      |nil=>intro r h;simp only[rowsA]at h;split at h
            ·rename_i hb;obtain rfl:=Option.some.inj h;exact Nat.eq_of_beq_eq_true hb
            ·cases h
      |cons y ys ih=>
       intro r h
       obtain⟨i,x⟩:=y
       simp only[rowsA]at h
       split at h
       ·rename_i hr2
        split at h
        ·obtain rfl:=Option.some.inj h
         have:=ih hr2
         simp only[List.length_cons];omega
        ·cases h
       ·cases h
     exact this hr
    have hmul:(i'+1)*sz≤n*sz:=Nat.mul_le_mul_right _ (by omega)
    rw[Nat.add_mul]at hmul
    have hf:=zjC (i'*sz) v.cells.toList 0 cs (by simp;omega)
    simp only[Nat.add_zero]at hf
    obtain⟨_,cs',r1,r2,r3,r4⟩:=znp (ps:=ps) (cs:=(v.cells.toList.zipIdx.foldl (fun cs (c,j)=>cs.setIfInBounds (i'*sz+j) c) cs)) (by rw[hf.1,h1]) hr (by simpa using h3)
     (fun j p x hp hx=>h4 (j+1) p x (by simpa using hp) (by simpa using hx))
    have e:v.cells.toList.length=sz:=by simpa[hl]using c1
    refine⟨by simp only[List.length_cons];omega,cs',?_,r2,fun m hm=>?_,fun i hi=>?_⟩
    ·unfold Instr.fill
     have n1: ¬(v.cells.size≠sz∨i'*sz+v.cells.size>cs.size):=by omega
     simp only[ne_eq,gt_iff_lt,Bool.or_eq_true,decide_eq_true_eq]
     rw[if_neg (by simpa using n1)]
     rw[←Array.foldl_toList,Array.toList_zipIdx]
     exact r1
    ·rw[r3 m (by rw[Nat.add_mul];omega),hf.2 m,if_neg (by omega)]
    ·cases i with
     |zero=>
      refine⟨by simpa using hl,fun j hj=>?_⟩
      simp only[List.getD_cons_zero]at hj⊢
      rw[Nat.add_zero,r3 _ (by rw[Nat.add_mul];omega),hf.2,if_pos (by omega),zag,show i'*sz+j-i'*sz=j from by omega]
      have:=c2 j hj
      rw[Nat.zero_add]at this
      exact⟨zc3 (za7 hcl hj) this.1,this.2⟩
     |succ i=>
      have:=r4 i (by simpa using hi)
      rw[show i'+1+i=i'+(i+1)from by omega]at this
      simpa using this
   ·cases h2
  ·cases h2
theorem zuT(hty:TyOK P ty){u e n:Nat}{ui ei:TI}{parts:Array (Nat×Operand)}{xs:List (Nat×AV)}{rows:List (List AV)}{β:Bt}{S:St}{a:Act}{w:World}(hs:SR w0 nt β S s a w)(hui:ty u=some ui)(hd1:ui.desc=.slice e)(hei:ty e=some ei)
 (hp:zcN s parts.toList=some xs) (hb:rowsA n ei.size 0 xs=some rows) (hsm:Nat.ble (n*ei.size) 1000=true):
 ∃ cs':Array Value,(execOp a.eval ⟨d,.buildSlice u n parts,t,pos,af,g⟩).run P w=.ok (.value (.slice (some ⟨w.heap.size,0,none⟩) n n)) (w.alloc (.cells cs' e))∧cs'.size=n*ei.size∧rows.length=n∧
   ∀ i,i <rows.length→(rows.getD i []).length=ei.size∧CR nb S w cs' (i*ei.size) (rows.getD i []):=by
 have hsm:n*ei.size≤1000:=Nat.le_of_ble_eq_true hsm
 obtain⟨_,_,_,hU⟩:=hty.get hui
 obtain⟨ci,dd,z,hE⟩:=hty.get hei
 obtain⟨e1,e2⟩:=zgE hs hp
 have hsz:ci.size=ei.size:=hE.size
 obtain⟨cs0,hcs0,hc0⟩: ∃ cs0:Array Value,cs0.size=n*ei.size∧(if n*ci.size=0 then(#[]:Array Value)else z.cells)=(if n*ci.size=0 then(#[]:Array Value)else z.cells)∧cs0=(Array.range (n*ci.size)).map (fun i=>(if n*ci.size=0 then(#[]:Array Value)else z.cells)[i%(if n*ci.size=0 then(#[]:Array Value)else z.cells).size]!):=⟨_,by simp[hsz],rfl,rfl⟩
 have hFR:=znp (β:=β) (S:=S) (w:=w) (k:=0) (ps:=parts.toList.map fun q=>(q.1,a.eval q.2)) (cs:=cs0) hcs0 hb (by simpa using e1) e2
 obtain⟨hrn,cs',r1,r2,_,r4⟩:=hFR
 have hr:(execOp a.eval ⟨d,.buildSlice u n parts,t,pos,af,g⟩).run P w=.ok (.value (.slice (some ⟨w.heap.size,0,none⟩) n n)) (w.alloc (.cells cs' e)):=by
  have hu:=hU.slice hd1
  have hbig: ¬(16777216 <n*ci.size):=by rw[hsz];omega
  have r1':Instr.fill (fun i=>some (i*ci.size,ci.size)) cs0 (parts.toList.map fun q=>(q.1,a.eval q.2))=some cs':=by rw[hsz];exact r1
  by_cases h0:n*ci.size=0
  ·simp only[h0,if_true]at hc0
   simp[execOp,Instr.buildSlice,run_underlying hu,sizeOf,typeInfo,hE.info,h0]
   have e0:(Array.range 0).map (fun _=>(default:Value))=cs0:=by
    have:cs0= #[]:=Array.eq_empty_of_size_eq_zero (by rw[hcs0, ←hsz];exact h0)
    rw[this];exact Array.eq_empty_of_size_eq_zero (by simp)
   rw[e0]
   simp[r1',newRow]
  ·simp only[h0,if_false]at hc0
   simp[execOp,Instr.buildSlice,run_underlying hu,sizeOf,typeInfo,zeroValue,hE.info,hE.zero,h0,hbig]
   rw[←hc0.2]
   simp[r1',newRow]
 simp only[Nat.zero_add]at hrn r4
 exact⟨cs',hr,r2,hrn,r4⟩
end
end Go.Aw
namespace Go.Aw
open Go.RowKit
theorem HR.turn{w0:B0}{w:World}{β:Bt}{S S':St}{blk:Bk}(h:HR w0 β S blk w){id:Nat}{k k':AB}{bi:BI}(hk:blk id=some k)(hl:k.live=true)(hbi:β id=some bi)
 (hS: ∀ b o,S' b o↔S b o∨(b=bi.b∧S' b o)) (hk':(∀ {v x},VR β S w v x→VR β S' w v x)→BR β S' w bi k'):
 HR w0 β S' (upd blk id k') w∧ ∀ {v x},VR β S w v x→VR β S' w v x:=by
 have hSm: ∀ b o,S b o→S' b o∧w.cell? ⟨b,o,none⟩=w.cell? ⟨b,o,none⟩:=fun b o q=>⟨(hS b o).2 (.inl q),rfl⟩
 have hv: ∀ {v x},VR β S w v x→VR β S' w v x:=fun q=>q.mono (fun _ _ q=>q) hSm
 obtain⟨bi2,e1,hbr,hge⟩:=h.hblk id k hk
 rw[hbi]at e1
 obtain rfl:=Option.some.inj e1
 have hblt:=hbr.lt hl
 refine⟨⟨?_,?_,?_,fun b o q=>(hSm b o (h.hold b o q)).1,fun b o q hlt=>((hS b o).1 q).elim (fun q=>h.hnew b o q hlt) (fun q=>absurd (q.1▸hlt) (hge hl)),?_,h.hbelow⟩,hv⟩
 ·intro i kk q
  by_cases e:i=id
  ·subst e
   have:some k'=some kk:=(zR blk i k').symm.trans q
   obtain rfl:=Option.some.inj this
   exact⟨bi,hbi,hk' hv,fun _=>hge hl⟩
  ·rw[zJ blk k' e]at q
   obtain⟨b2,h1,h2,h3⟩:=h.hblk i kk q
   refine⟨b2,h1,h2.ext (fun _ _ q=>q) hSm (fun _=>rfl) (fun hl2 o q2=>?_),h3⟩
   rcases(hS _ _).1 q2 with q3|⟨q3,_⟩
   ·exact q3
   ·exact absurd q3 (h.hinj i id b2 bi kk k e q hl2 hk hl h1 hbi)
 ·intro i b q
  by_cases e:i=id
  ·subst e;exact⟨k',zR blk i k'⟩
  ·obtain⟨k2,hk2⟩:=h.hdom i b q
   exact⟨k2,by rw[zJ blk k' e];exact hk2⟩
 ·intro i j b1 b2 k1 k2 hne q1 l1 q2 l2 p1 p2
  by_cases ei:i=id
  ·subst ei
   rw[zJ blk k' (fun e=>hne e.symm)]at q2
   exact h.hinj i j b1 b2 k k2 hne hk hl q2 l2 p1 p2
  ·rw[zJ blk k' ei]at q1
   by_cases ej:j=id
   ·subst ej
    exact h.hinj i j b1 b2 k1 k hne q1 l1 hk hl p1 p2
   ·rw[zJ blk k' ej]at q2
    exact h.hinj i j b1 b2 k1 k2 hne q1 l1 q2 l2 p1 p2
 ·intro b o q
  rcases(hS _ _).1 q with q|⟨rfl,_⟩
  ·exact h.hlt b o q
  ·exact hblt
theorem HR.freeze{w0:B0}{w:World}{β:Bt}{S:St}{blk:Bk}(h:HR w0 β S blk w){id e es:Nat}{rows:List (List AV)}{wr:Bool}{pin:Option BI}{bi:BI}(hk:blk id=some (.ar pin e es rows wr))(hbi:β id=some bi):
 ∃ S',HR w0 β S' (upd blk id (.ar pin e es rows false)) w∧(∀ {v x},VR β S w v x→VR β S' w v x)∧ ∀ {v x},VR nb S w v x→VR nb S' w v x:=by
 cases wr with
 |false=>
  refine⟨S,?_,fun q=>q,fun q=>q⟩
  have:upd blk id (.ar pin e es rows false)=blk:=by
   funext i
   by_cases e:i=id
   ·subst e;rw[zR,hk]
   ·rw[zJ _ _ e]
  rw[this];exact h
 |true=>
  obtain⟨bi2,e1,h2,_⟩:=h.hblk id _ hk
  rw[hbi]at e1
  obtain rfl:=Option.some.inj e1
  obtain⟨h3,h4,cs,h5,h6,h7,h8,h9,h10,_,h12⟩:=h2
  have ht:=h.turn (S':=fun b o=>S b o∨(b=bi.b∧o <bi.n*es)) (k':=.ar pin e es rows false) hk rfl hbi (fun b o=>⟨fun q=>q.elim .inl (fun q=>.inr ⟨q.1,.inr q⟩),fun q=>q.elim .inl (fun q=>q.2)⟩) (fun _=>
   ⟨h3,h4,cs,h5,h6,h7,h8,fun i hi=>⟨(h9 i hi).1,(h9 i hi).2.mono (fun _ _ q=>q) (fun b o q=>⟨.inl q,rfl⟩)⟩,(fun q=>by cases q),
    fun _ o=>⟨fun q=>q.elim (fun q=>absurd q (h10 rfl o)) (fun q=>q.2),fun q=>.inr ⟨rfl,q⟩⟩,h12⟩)
  exact⟨_,ht.1,ht.2,fun q=>q.mono (fun _ _ q=>q) (fun b o q=>⟨.inl q,rfl⟩)⟩
theorem zmx{w0:B0}{w:World}{β:Bt}{S:St}{blk:Bk}(h:HR w0 β S blk w){pin:Option BI}{id e es:Nat}{rows:List (List AV)}(hk:blk id=some (.ar pin e es rows false)∨blk id=some (.ro e es rows)){v:Value}(hv:VR β S w v (.arr id)):
 VR β S w v (.lst es rows false):=by
 cases hv
 rename_i bi hbi
 rcases hk with hk|hk
 ·obtain⟨bi2,e1,h2,_⟩:=h.hblk id _ hk
  rw[hbi]at e1
  obtain rfl:=Option.some.inj e1
  obtain⟨h3,h4,cs,h5,h6,h7,h8,h9,_,h10,_⟩:=h2
  refine .lst bi.b 0 bi.n bi.c es rows false (fun i j=>cs.getD (i*es+j) undef) h4.symm h6 (fun q=>by cases q) (fun i hi=>(h9 i (by omega)).1) (fun i j hi hj=>?_) (fun i j hi hj=>?_)
  ·have hlt:i*es+j <bi.n*es:=by
    have:(i+1)*es≤bi.n*es:=Nat.mul_le_mul_right _ hi
    rw[Nat.add_mul]at this;omega
   have hsz:i*es+j <cs.size:=by
    rw[h8];exact Nat.lt_of_lt_of_le hlt (Nat.mul_le_mul_right _ h6)
   have hrow:=h9 i (by omega)
   refine⟨by rw[Nat.zero_add];exact(h10 rfl _).2 hlt,?_,(hrow.2 j (by rw[hrow.1];exact hj)).2⟩
   rw[Nat.zero_add]
   simp[World.cell?,h5,Array.getD,hsz]
  ·have hrow:=h9 i (by omega)
   exact(hrow.2 j (by rw[hrow.1];exact hj)).1
 ·obtain⟨bi2,e1,h2,_⟩:=h.hblk id _ hk
  rw[hbi]at e1
  obtain rfl:=Option.some.inj e1
  obtain⟨h3,h4,h5,h6⟩:=h2
  have hc: ∃ f:Nat→Nat→Value,∀ i j,i <bi.n→j <es→S bi.b (0+i*es+j)∧w.cell? ⟨bi.b,0+i*es+j,none⟩=some (f i j)∧(f i j).oneCell'=true∧VR nb S w (f i j) ((rows.getD i []).getD j .any):=by
   refine⟨fun i j=>if hh:i <rows.length∧j <es then((h6 i hh.1).2 j hh.2).2.choose else undef,fun i j hi hj=>?_⟩
   have hi':i <rows.length:=by omega
   have hq:=(h6 i hi').2 j hj
   simp only[hi',hj,and_self,dif_pos]
   rw[Nat.zero_add]
   exact⟨hq.1,hq.2.choose_spec.1,hq.2.choose_spec.2.1,hq.2.choose_spec.2.2⟩
  obtain⟨f,hf⟩:=hc
  exact .lst bi.b 0 bi.n bi.c es rows false f h4.symm h5 (fun q=>by cases q) (fun i hi=>(h6 i (by omega)).1) (fun i j hi hj=>⟨(hf i j hi hj).1,(hf i j hi hj).2.1,(hf i j hi hj).2.2.1⟩) (fun i j hi hj=>(hf i j hi hj).2.2.2)
def zaP(blk:Bk):AV→Option (Nat×List (List AV))
 | .lst es rows _=>some (es,rows)
 | .arr id=>match blk id with
   |some (.ar _ _ es rows _)=>some (es,rows)
   |some (.ro _ es rows)=>some (es,rows)
   |_=>none
 |_=>none
theorem zoD{w0:B0}{w:World}{β:Bt}{S:St}{blk:Bk}(h:HR w0 β S blk w){v:Value}{x:AV}(hv:VR β S w v x){es:Nat}{rows:List (List AV)}(hx:zaP blk x=some (es,rows))(hne:rows≠[]):
 ∃ b o c,v=.slice (some ⟨b,o,none⟩) rows.length c∧ ∀ i,i <rows.length→(rows.getD i []).length=es∧ ∀ j,j <es→ ∃ u,w.cell? ⟨b,o+(i*es+j),none⟩=some u∧u.oneCell'=true∧VR nb S w u ((rows.getD i []).getD j .any):=by
 cases hv with
 |lst0=>simp only[zaP,Option.some.injEq,Prod.mk.injEq]at hx;exact absurd hx.2.symm hne
 |lstZ=>simp only[zaP,Option.some.injEq,Prod.mk.injEq]at hx;exact absurd hx.2.symm hne
 |lst b o n c es' rows' full cells h1 h2 h3 h4 h5 h6=>
  simp only[zaP,Option.some.injEq,Prod.mk.injEq]at hx
  obtain⟨rfl,rfl⟩:=hx
  refine⟨b,o,c,by rw[h1],fun i hi=>⟨h4 i (by omega),fun j hj=>?_⟩⟩
  obtain⟨_,q2,q3⟩:=h5 i j (by omega) hj
  exact⟨_,by rw[←Nat.add_assoc];exact q2,q3,h6 i j (by omega) hj⟩
 |arr id bi hbi=>
  simp only[zaP]at hx
  split at hx
  ·rename_i e es2 rows2 wr hk
   obtain⟨rfl,rfl⟩:=Prod.mk.inj (Option.some.inj hx)
   obtain⟨bi2,e1,h2,_⟩:=h.hblk id _ hk
   rw[hbi]at e1
   obtain rfl:=Option.some.inj e1
   obtain⟨h3,h4,cs,h5,h6,h7,h8,h9,_⟩:=h2
   refine⟨bi.b,0,bi.c,by rw[h4],fun i hi=>⟨(h9 i hi).1,fun j hj=>?_⟩⟩
   have hlt:i*es2+j <cs.size:=by
    have:(i+1)*es2≤bi.c*es2:=Nat.mul_le_mul_right _ (by omega)
    rw[Nat.add_mul]at this
    rw[h8];omega
   have hrow:=h9 i hi
   refine⟨cs.getD (i*es2+j) undef,?_,(hrow.2 j (by rw[hrow.1];exact hj)).2,(hrow.2 j (by rw[hrow.1];exact hj)).1⟩
   rw[Nat.zero_add]
   simp[World.cell?,h5,Array.getD,hlt]
  ·rename_i e es2 rows2 hk
   obtain⟨rfl,rfl⟩:=Prod.mk.inj (Option.some.inj hx)
   obtain⟨bi2,e1,h2,_⟩:=h.hblk id _ hk
   rw[hbi]at e1
   obtain rfl:=Option.some.inj e1
   obtain⟨h3,h4,h5,h6⟩:=h2
   refine⟨bi.b,0,bi.c,by rw[h4],fun i hi=>⟨(h6 i hi).1,fun j hj=>?_⟩⟩
   obtain⟨_,u,q1,q2,q3⟩:=(h6 i hi).2 j hj
   exact⟨u,by rw[Nat.zero_add];exact q1,q2,q3⟩
  ·cases hx
 |_=>simp[zaP]at hx
end Go.Aw
namespace Go.Aw
open Go.RowKit
def zam(w:World)(b o k:Nat):List Value:=(List.range k).map fun m=>(w.cell? ⟨b,o+m,none⟩).getD undef
theorem zaf(w:World)(b o k:Nat):(zam w b o k).length=k:=by simp[zam]
theorem ze2(w:World)(b o k m:Nat)(hm:m <k){u:Value}(h:w.cell? ⟨b,o+m,none⟩=some u):(zam w b o k).getD m undef=u:=by
 simp[zam,List.getD_eq_getElem?_getD,hm,h]
theorem zcC{w:World}{b o es n:Nat}(h: ∀ i,i <n→ ∀ j,j <es→ ∃ u,w.cell? ⟨b,o+(i*es+j),none⟩=some u∧u.oneCell'=true):
 (∀ m u,(zam w b o (n*es))[m]? =some u→w.cell? ((⟨b,o,none⟩:Addr).add m)=some u)∧ ∀ u∈zam w b o (n*es),u.oneCell'=true:=by
 have key: ∀ m,m <n*es→ ∃ u,w.cell? ⟨b,o+m,none⟩=some u∧u.oneCell'=true:=by
  intro m hm
  have hes:0 <es:=by
   rcases Nat.eq_zero_or_pos es with e|e
   ·subst e;simp at hm
   ·exact e
  obtain⟨u,h1,h2⟩:=h (m/es) ((Nat.div_lt_iff_lt_mul hes).2 hm) (m%es) (Nat.mod_lt _ hes)
  rw[Nat.mul_comm (m/es) es,Nat.div_add_mod]at h1
  exact⟨u,h1,h2⟩
 constructor
 ·intro m u hu
  have hm:m <n*es:=by
   have:=(List.getElem?_eq_some_iff.1 hu).1
   rwa[zaf]at this
  obtain⟨u',h1,_⟩:=key m hm
  have:=ze2 w b o (n*es) m hm h1
  rw[List.getD_eq_getElem?_getD,hu]at this
  simp only[Option.getD_some]at this
  rw[zfu,h1,this]
 ·intro u hu
  obtain⟨m,hm,rfl⟩:=List.mem_iff_getElem.1 hu
  rw[zaf]at hm
  obtain⟨u',h1,h2⟩:=key m hm
  have:=ze2 w b o (n*es) m hm h1
  have e:(zam w b o (n*es)).getD m undef=(zam w b o (n*es))[m]'(by rw[zaf];exact hm):=by
   simp[List.getD_eq_getElem?_getD,zaf,hm]
  rw[←e,this];exact h2
theorem zc8{α:Type}(l r:List α)(d:α){m:Nat}(h:m <l.length):(l++r).getD m d=l.getD m d:=by
 simp[List.getD_eq_getElem?_getD,List.getElem?_append_left h]
theorem zft{α:Type}(l r:List α)(d:α)(m:Nat):(l++r).getD (l.length+m) d=r.getD m d:=by
 simp[List.getD_eq_getElem?_getD,List.getElem?_append_right]
theorem zcA{i n es j:Nat}(hi:i <n)(hj:j <es):i*es+j <n*es:=by
 have:(i+1)*es≤n*es:=Nat.mul_le_mul_right _ hi
 rw[Nat.add_mul]at this;omega
section
variable {P:Program} {ty:Ty} {w0:B0} {nt:Nat} {s:AS} {d:Option Nat} {t:TypeId} {pos:String} {af:Array Edge} {g:Option (Nat×Bool)}
theorem zdT{S S':St}{w w':World}{olds news:List Value}{rest:List Value}{es:Nat}{rows rows2:List (List AV)}(hl1:olds.length=rows.length*es)(hl2:news.length=rows2.length*es)
 (h1: ∀ i,i <rows.length→(rows.getD i []).length=es∧ ∀ j,j <es→VR nb S w (olds.getD (i*es+j) undef) ((rows.getD i []).getD j .any)∧(olds.getD (i*es+j) undef).oneCell'=true)
 (h2: ∀ i,i <rows2.length→(rows2.getD i []).length=es∧ ∀ j,j <es→VR nb S w (news.getD (i*es+j) undef) ((rows2.getD i []).getD j .any)∧(news.getD (i*es+j) undef).oneCell'=true)
 (hv: ∀ {v x},VR nb S w v x→VR nb S' w' v x):
 ∀ i,i <(rows++rows2).length→((rows++rows2).getD i []).length=es∧CR nb S' w' (olds++news++rest).toArray (i*es) ((rows++rows2).getD i []):=by
 intro i hi
 rw[List.length_append]at hi
 by_cases hlt:i <rows.length
 ·rw[zc8 _ _ _ hlt]
  obtain⟨q1,q2⟩:=h1 i hlt
  refine⟨q1,fun j hj=>?_⟩
  rw[q1]at hj
  have hb:=zcA hlt hj
  rw[←zag,List.toList_toArray,List.append_assoc,zc8 _ _ _ (by omega)]
  exact⟨hv (q2 j hj).1,(q2 j hj).2⟩
 ·obtain⟨k,rfl⟩: ∃ k,i=rows.length+k:=⟨i-rows.length,by omega⟩
  rw[zft]
  obtain⟨q1,q2⟩:=h2 k (by omega)
  refine⟨q1,fun j hj=>?_⟩
  rw[q1]at hj
  have hb:=zcA (show k <rows2.length by omega) hj
  rw[←zag,List.toList_toArray,List.append_assoc,Nat.add_mul,show rows.length*es+k*es+j=olds.length+(k*es+j)from by rw[hl1];omega,zft,zc8 _ _ _ (by omega)]
  exact⟨hv (q2 j hj).1,(q2 j hj).2⟩
theorem zdF{w:World}{S:St}{b o es:Nat}{rows:List (List AV)}
 (h: ∀ i,i <rows.length→(rows.getD i []).length=es∧ ∀ j,j <es→ ∃ u,w.cell? ⟨b,o+(i*es+j),none⟩=some u∧u.oneCell'=true∧VR nb S w u ((rows.getD i []).getD j .any)):
 ∀ i,i <rows.length→(rows.getD i []).length=es∧ ∀ j,j <es→VR nb S w ((zam w b o (rows.length*es)).getD (i*es+j) undef) ((rows.getD i []).getD j .any)∧((zam w b o (rows.length*es)).getD (i*es+j) undef).oneCell'=true:=by
 intro i hi
 refine⟨(h i hi).1,fun j hj=>?_⟩
 obtain⟨u,h1,h2,h3⟩:=(h i hi).2 j hj
 rw[ze2 w b o _ _ (zcA hi hj) h1]
 exact⟨h3,h2⟩
theorem zpN{u e:TypeId}{x y:Operand}{p q:AV}{es:Nat}{rows:List (List AV)}{es2:Nat}(hty:TyOK P ty){ui ei:TI}(hui:ty u=some ui)(hd1:ui.desc=.slice e)(hei:ty e=some ei)(hx:evO s x=some p)(hp:zaP s.blk p=some (es,rows))
 (hy:evO s y=some q) (hq:zaP s.blk q=some (es2,[])) (hd:zt nt d=true):
 OkOp P w0 nt ⟨d,.call {callee:=.builtin .append,args:= #[x,y],argTypes:= #[u,u]},t,pos,af,g⟩ s (s.put d p):=
 zaE hd fun β S a w hs=>by
  obtain⟨_,_,_,hU⟩:=hty.get hui
  obtain⟨ci,_,_,hE⟩:=hty.get hei
  have h1:=zah hs hx
  have h2:=zah hs hy
  have len1: ∃ ad n c,a.eval x=.slice ad n c∧n≤c:=by
   generalize a.eval x=cx at h1
   cases h1 with
   |lst0=>exact⟨_,_,_,rfl,Nat.le_refl _⟩
   |lstZ=>exact⟨_,_,_,rfl,Nat.le_refl _⟩
   |lst b o n c es' rows' full cells h1 h2 h3 h4 h5 h6=>exact⟨_,_,_,rfl,h2⟩
   |arr id bi hbi=>
    refine⟨_,_,_,rfl,?_⟩
    simp only[zaP]at hp
    split at hp
    ·rename_i hk
     obtain⟨bi2,e1,q2,_⟩:=hs.hh.hblk id _ hk
     rw[hbi]at e1
     obtain rfl:=Option.some.inj e1
     exact q2.2.2.choose_spec.2.1
    ·rename_i hk
     obtain⟨bi2,e1,q2,_⟩:=hs.hh.hblk id _ hk
     rw[hbi]at e1
     obtain rfl:=Option.some.inj e1
     exact q2.2.2.1
    ·cases hp
   |_=>simp[zaP]at hp
  have len2: ∃ ad c,a.eval y=.slice ad 0 c:=by
   generalize a.eval y=cy at h2
   cases h2 with
   |lst0=>exact⟨_,_,rfl⟩
   |lstZ=>exact⟨_,_,rfl⟩
   |lst b o n c es' rows' full cells h1 h2 h3 h4 h5 h6=>
    simp only[zaP,Option.some.injEq,Prod.mk.injEq]at hq
    obtain⟨_,rfl⟩:=hq
    obtain rfl:n=0:=h1.symm
    exact⟨_,_,rfl⟩
   |arr id bi hbi=>
    simp only[zaP]at hq
    split at hq
    ·rename_i hk
     obtain⟨bi2,e1,q2,_⟩:=hs.hh.hblk id _ hk
     rw[hbi]at e1
     obtain rfl:=Option.some.inj e1
     simp only[Option.some.injEq,Prod.mk.injEq]at hq
     exact⟨_,_,by rw[q2.2.1,hq.2];rfl⟩
    ·rename_i hk
     obtain⟨bi2,e1,q2,_⟩:=hs.hh.hblk id _ hk
     rw[hbi]at e1
     obtain rfl:=Option.some.inj e1
     simp only[Option.some.injEq,Prod.mk.injEq]at hq
     exact⟨_,_,by rw[q2.2.1,hq.2];rfl⟩
    ·cases hq
   |_=>simp[zaP]at hq
  obtain⟨ad,n,c,e1,hnc⟩:=len1
  obtain⟨ad2,c2,e2⟩:=len2
  refine⟨a.eval x,?_,h1⟩
  have hf:(Builtin.firstCells ci.size 0 (.slice ad2 0 c2)).run P w=.ok #[] w:=by
   cases ad2 <;>simp[Builtin.firstCells,loadCells,loadCellsFrom]
  have:(Builtin.append_ #[u,u] t #[.slice ad n c,.slice ad2 0 c2]).run P w=.ok (.slice ad n c) w:=by
   have hst: ∀ z:Addr,(storeCells z [] 0).run P w=.ok () w:=fun z=>rfl
   cases ad <;>simp[Builtin.append_,run_underlying (hU.slice hd1),sizeOf,typeInfo,hE.info,Builtin.lenOf,hnc,hf,hst]
  simp[execOp,resolve,invoke,builtin,e1,e2,this]
theorem zqc(hty:TyOK P ty){u e:Nat}{ui ei:TI}{x y:Operand}{q:AV}{es es2:Nat}{rows rows2:List (List AV)}(id:Nat)(hui:ty u=some ui)(hd1:ui.desc=.slice e)(hei:ty e=some ei)
 (hid:s.blk id=none) (hx:evO s x=some (.lst es rows true)) (hes:(rows.isEmpty||Nat.beq es ei.size)=true) (hy:evO s y=some q) (hq:zaP s.blk q=some (es2,rows2)) (hes2:Nat.beq es2 ei.size=true)
 (hne:rows2≠[]) (hb:(rows.length+rows2.length)*ei.bytes≤140737488355328) (hb0:Nat.blt 0 ei.bytes=true) (hd:zt nt d=true):
 OkOp P w0 nt ⟨d,.call {callee:=.builtin .append,args:= #[x,y],argTypes:= #[u,u]},t,pos,af,g⟩ s ((s.setB id (.arr e ei.size (rows++rows2) true)).put d (.arr id)):=by
 intro β S a w next Q hs hn
 have hb0:=zfF hb0
 obtain rfl:=Nat.eq_of_beq_eq_true hes2
 obtain⟨_,_,_,hU⟩:=hty.get hui
 obtain⟨ci,dd,z,hE⟩:=hty.get hei
 have h1:=zah hs hx
 have h2:=zah hs hy
 obtain⟨b2,o2,c2,e2,hsrc⟩:=zoD hs.hh h2 hq hne
 obtain⟨hn1,hn2⟩:=zcC (w:=w) (b:=b2) (o:=o2) (n:=rows2.length) (fun i hi j hj=>by obtain⟨u,q1,q2,_⟩:=(hsrc i hi).2 j hj;exact⟨u,q1,q2⟩)
 have hlen:0 <rows2.length:=List.length_pos_iff.2 hne
 have hsmall:rows.length+rows2.length≤140737488355328:=by
  have:(rows.length+rows2.length)*1≤(rows.length+rows2.length)*ei.bytes:=Nat.mul_le_mul_left _ hb0
  omega
 have fin: ∀ (olds:List Value) (cap:Nat) (w':World),olds.length=rows.length*ei.size→
  (∀ i,i <rows.length→(rows.getD i []).length=ei.size∧ ∀ j,j <ei.size→VR nb S w (olds.getD (i*ei.size+j) undef) ((rows.getD i []).getD j .any)∧(olds.getD (i*ei.size+j) undef).oneCell'=true)→
  rows.length+rows2.length≤cap→cap≤maxLen→
  w'=w.drew.alloc (.cells (olds.toArray++(zam w b2 o2 (rows2.length*ei.size)).toArray++Builtin.zeroCells z.cells (cap-(rows.length+rows2.length))) e)→
  next (a.put d (.slice (some ⟨w.heap.size,0,none⟩) (rows.length+rows2.length) cap)) w':=by
  intro olds cap w' ho1 ho2 hc1 hc2 hw'
  have hB:Below w.heap.size w w':=by rw[hw'];exact(Below.refl _ _).drew.alloc (Nat.le_refl _) _
  have hext: ∀ {v x},VR nb S w v x→VR nb S w' v x:=fun q=>q.mono (fun _ _ q=>q) (fun b o q=>⟨q,zch hB (hs.hh.hlt b o q)⟩)
  have hheap:w'.heap[w.heap.size]? =some (.cells (olds++zam w b2 o2 (rows2.length*ei.size)++(Builtin.zeroCells z.cells (cap-(rows.length+rows2.length))).toList).toArray e (0,0)):=by
   rw[hw',show w.heap.size=w.drew.heap.size from rfl,heap_alloc_new]
   congr 2
   apply Array.ext'
   simp
  refine hn _ _ _ _ (zh0 hs hB hid hd (bi:=⟨w.heap.size,rows.length+rows2.length,cap,ei.size⟩) (Nat.le_refl _) ⟨rfl,by simp,_,hheap,hc1,hc2,?_,?_,fun _ o q=>absurd (hs.hh.hlt _ _ q) (Nat.lt_irrefl _),(fun q=>by cases q),fun _ q=>by cases q⟩ (fun h=>.arr _ _ h))
  ·simp only[List.size_toArray,List.length_append,ho1,zaf,Array.length_toList,size_zeroCells,hE.zsize]
   rw[←Nat.add_mul, ←Nat.add_mul]
   congr 1
   omega
  ·exact zdT ho1 (zaf _ _ _ _) ho2 (zdF hsrc) hext
 have hfin: ∀ v' w',(Builtin.append_ #[u,u] t #[a.eval x,a.eval y]).run P w=.ok v' w'→next (a.put d v') w'→(Oper.wp P ⟨d,.call {callee:=.builtin .append,args:= #[x,y],argTypes:= #[u,u]},t,pos,af,g⟩ a w next Q):=by
  intro v' w' hr hnx
  unfold Oper.wp execOp
  simp[resolve,invoke,builtin,hr]
  exact hnx
 have hl2:(zam w b2 o2 (rows2.length*ei.size)).length=rows2.length*ci.size:=by rw[zaf,hE.size]
 generalize e1:a.eval x=cx at h1
 rw[e1,e2]at hfin
 cases h1 with
 |lst0=>
  have hr:=run_append_nil (P:=P) w u t e ci z (hU.slice hd1) hE.info hE.zero ⟨b2,o2,none⟩ rows2.length c2 (zam w b2 o2 (rows2.length*ei.size)) hl2 hn1 hlen (by omega) (by
   rw[hE.bytes];simp only[List.length_nil,Nat.zero_add]at hb;omega)
  refine hfin _ _ hr ?_
  have:=fin [] (grownCap w rows2.length 0 e) _ (by simp) (fun i hi=>by simp at hi) (by simpa using grownCap_ge w rows2.length 0 e) (grownCap_le_maxLen w _ _ _ (by simp only[maxLen];omega)) rfl
  simpa using this
 |lstZ ad=>
  have hr:=run_append_grow (P:=P) w u t e ci z (hU.slice hd1) hE.info hE.zero ad 0 0 [] (by simp) (by simp)
   ⟨b2,o2,none⟩ rows2.length c2 (zam w b2 o2 (rows2.length*ei.size)) hl2 hn1 (by omega) (by omega) (growslice_fits (by omega) (by rw[hE.bytes,Nat.zero_add];simp only[List.length_nil,Nat.zero_add]at hb;omega))
  refine hfin _ _ hr ?_
  have:=fin [] (grownCap w (0+rows2.length) 0 e) _ (by simp) (fun i hi=>by simp at hi) (by simpa using grownCap_ge w (0+rows2.length) 0 e) (grownCap_le_maxLen w _ _ _ (by simp only[maxLen];omega)) rfl
  simpa using this
 |lst b o n c es' rows' full cells q1 q2 q3 q4 q5 q6=>
  obtain rfl:c=n:=q3 rfl
  subst q1
  have hrows: ∀ i,i <rows.length→(rows.getD i []).length=ei.size∧ ∀ j,j <ei.size→ ∃ u,w.cell? ⟨b,o+(i*ei.size+j),none⟩=some u∧u.oneCell'=true∧VR nb S w u ((rows.getD i []).getD j .any):=by
   intro i hi
   have he:es=ei.size:=by
    rcases Bool.or_eq_true _ _▸hes with q|q
    ·rw[List.isEmpty_iff]at q;subst q;simp at hi
    ·exact Nat.eq_of_beq_eq_true q
   subst he
   refine⟨q4 i hi,fun j hj=>?_⟩
   obtain⟨_,r2,r3⟩:=q5 i j hi hj
   exact⟨_,by rw[←Nat.add_assoc];exact r2,r3,q6 i j hi hj⟩
  obtain⟨ho1,_⟩:=zcC (w:=w) (b:=b) (o:=o) (n:=rows.length) (fun i hi j hj=>by obtain⟨u,q1,q2,_⟩:=(hrows i hi).2 j hj;exact⟨u,q1,q2⟩)
  have hr:=run_append_grow (P:=P) w u t e ci z (hU.slice hd1) hE.info hE.zero ⟨b,o,none⟩ rows.length rows.length (zam w b o (rows.length*ei.size)) (by rw[zaf,hE.size]) ho1
   ⟨b2,o2,none⟩ rows2.length c2 (zam w b2 o2 (rows2.length*ei.size)) hl2 hn1 (by omega) (by omega) (growslice_fits (by omega) (by rw[hE.bytes];omega))
  refine hfin _ _ hr ?_
  exact fin (zam w b o (rows.length*ei.size)) _ _ (zaf _ _ _ _) (zdF hrows) (grownCap_ge w _ _ e) (grownCap_le_maxLen w _ _ _ (by simp only[maxLen];omega)) rfl
end
end Go.Aw
namespace Go.Aw
open Go.RowKit
theorem zkU{β:Bt}{S:St}{w:World}{bi:BI}{e es:Nat}{rows:List (List AV)}(h:BR β S w bi (.arr e es rows false)):BR β S w bi (.ro e es rows):=by
 obtain⟨h3,h4,cs,h5,h6,h7,h8,h9,_,h10,_⟩:=h
 refine⟨h3,h4,h6,fun i hi=>⟨(h9 i hi).1,fun j hj=>?_⟩⟩
 have hrow:=h9 i hi
 have hlt:i*es+j <bi.n*es:=by rw[h4];exact zcA hi hj
 have hsz:i*es+j <cs.size:=by rw[h8];exact Nat.lt_of_lt_of_le hlt (Nat.mul_le_mul_right _ h6)
 exact⟨(h10 rfl _).2 hlt,cs.getD (i*es+j) undef,by simp[World.cell?,h5,Array.getD,hsz],(hrow.2 j (by rw[hrow.1];exact hj)).2,(hrow.2 j (by rw[hrow.1];exact hj)).1⟩
theorem HR.app{w0:B0}{w w':World}{β:Bt}{S:St}{blk:Bk}(h:HR w0 β S blk w){id0 id e es:Nat}{rows rows':List (List AV)}{bi:BI}(hk:blk id0=some (.arr e es rows false))(hbi:β id0=some bi)(hid:blk id=none)
 (hsz:w'.heap.size=w.heap.size) (hot: ∀ b,b≠bi.b→w'.heap[b]? =w.heap[b]?) (hos:w'.os=w.os) (htp:w'.tape=w.tape) (hout:w'.output=w.output) {cs':Array Value}
 (hcs:w'.heap[bi.b]? =some (.cells cs' e (0,0))) (hcz:cs'.size=bi.c*es) (hpre: ∀ o,o <bi.n*es→w'.cell? ⟨bi.b,o,none⟩=w.cell? ⟨bi.b,o,none⟩) (hn:bi.n≤rows'.length) (hc:rows'.length≤bi.c)
 (hrows: ∀ {S'},(∀ {v x},VR nb S w v x→VR nb S' w' v x)→ ∀ i,i <rows'.length→(rows'.getD i []).length=es∧CR nb S' w' cs' (i*es) (rows'.getD i [])):
 ∃ S',HR w0 (upd β id ⟨bi.b,rows'.length,bi.c,es⟩) S' (upd (upd blk id0 (.ro e es rows)) id (.arr e es rows' false)) w'∧ ∀ {v x},VR β S w v x→VR (upd β id ⟨bi.b,rows'.length,bi.c,es⟩) S' w' v x:=by
 obtain⟨bi2,e1,hbr,hge⟩:=h.hblk id0 _ hk
 rw[hbi]at e1
 obtain rfl:=Option.some.inj e1
 have hblt:=hbr.lt rfl
 obtain⟨b3,b4,cs,b5,b6,b7,b8,b9,b10,b11⟩:=hbr
 have hne:id0≠id:=fun q=>by rw[q,hid]at hk;cases hk
 have hβn:β id=none:=by
  cases q:β id with
  |none=>rfl
  |some b=>obtain⟨k,hk2⟩:=h.hdom id b q;rw[hid]at hk2;cases hk2
 have hb': ∀ i b,β i=some b→upd β id ⟨bi.b,rows'.length,bi.c,es⟩ i=some b:=by
  intro i b q
  by_cases e:i=id
  ·subst e;rw[hβn]at q;cases q
  ·rw[zJ _ _ e];exact q
 have hSm: ∀ b o,S b o→(S b o∨(b=bi.b∧o <rows'.length*es))∧w'.cell? ⟨b,o,none⟩=w.cell? ⟨b,o,none⟩:=by
  intro b o q
  refine⟨.inl q,?_⟩
  by_cases e:b=bi.b
  ·subst e;exact hpre o ((b11.1 rfl o).1 q)
  ·exact World.cell?_of_block (hot b e)
 have hv: ∀ {v x},VR β S w v x→VR (upd β id ⟨bi.b,rows'.length,bi.c,es⟩) (fun b o=>S b o∨(b=bi.b∧o <rows'.length*es)) w' v x:=fun q=>q.mono hb' hSm
 have hblk: ∀ i kk,i≠id→upd (upd blk id0 (.ro e es rows)) id (.arr e es rows' false) i=some kk→(i=id0∧kk=.ro e es rows)∨(i≠id0∧blk i=some kk):=by
  intro i kk hi q
  rw[zJ _ _ hi]at q
  by_cases e2:i=id0
  ·subst e2;rw[zR]at q;exact .inl ⟨rfl,(Option.some.inj q).symm⟩
  ·rw[zJ _ _ e2]at q;exact .inr ⟨e2,q⟩
 refine⟨fun b o=>S b o∨(b=bi.b∧o <rows'.length*es),⟨?_,?_,?_,fun b o q=>.inl (h.hold b o q),fun b o q hlt=>q.elim (fun q=>h.hnew b o q hlt) (fun q=>absurd (q.1▸hlt) (hge rfl)),?_,?_⟩,hv⟩
 ·intro i kk q
  by_cases ei:i=id
  ·subst ei
   rw[zR]at q
   obtain rfl:=Option.some.inj q
   refine⟨_,zR _ _ _,⟨rfl,rfl,cs',hcs,hc,b7,hcz,hrows (fun q=>q.mono (fun _ _ q=>q) hSm),(fun q=>by cases q),(fun _ o=>⟨fun q=>?_,fun q=>.inr ⟨rfl,q⟩⟩),fun _ q=>by cases q⟩,fun _=>hge rfl⟩
   rcases q with q|q
   ·have:=(b11.1 rfl o).1 q
    exact Nat.lt_of_lt_of_le this (Nat.mul_le_mul_right _ hn)
   ·exact q.2
  ·rcases hblk i kk ei q with⟨rfl,rfl⟩|⟨e2,q⟩
   ·refine⟨bi,hb' _ _ hbi,?_,fun q=>by cases q⟩
    have hro:=zkU (β:=β) (S:=S) (w:=w) (bi:=bi) ⟨b3,b4,cs,b5,b6,b7,b8,b9,b10,b11⟩
    exact hro.ext hb' hSm (fun q=>by cases q) (fun q=>by cases q)
   ·obtain⟨b2,h1,h2,h3⟩:=h.hblk i kk q
    have hneb:kk.live=true→b2.b≠bi.b:=fun hl2=>h.hinj i id0 b2 bi kk _ e2 q hl2 hk rfl h1 hbi
    refine⟨b2,hb' _ _ h1,h2.ext hb' hSm (fun hl2=>hot _ (hneb hl2)) (fun hl2 o q2=>?_),h3⟩
    rcases q2 with q3|⟨q3,_⟩
    ·exact q3
    ·exact absurd q3 (hneb hl2)
 ·intro i b q
  by_cases ei:i=id
  ·subst ei;exact⟨_,zR _ _ _⟩
  ·rw[zJ _ _ ei]at q
   by_cases e2:i=id0
   ·subst e2;exact⟨_,by rw[zJ _ _ ei,zR]⟩
   ·obtain⟨k2,hk2⟩:=h.hdom i b q
    exact⟨k2,by rw[zJ _ _ ei,zJ _ _ e2];exact hk2⟩
 ·have one: ∀ j bj kj,j≠id→upd (upd blk id0 (.ro e es rows)) id (.arr e es rows' false) j=some kj→kj.live=true→upd β id ⟨bi.b,rows'.length,bi.c,es⟩ j=some bj→bj.b≠bi.b:=by
   intro j bj kj hj q2 l2 p2
   rw[zJ _ _ hj]at p2
   rcases hblk j kj hj q2 with⟨rfl,rfl⟩|⟨e2,q2⟩
   ·cases l2
   ·exact h.hinj j id0 bj bi kj _ e2 q2 l2 hk rfl p2 hbi
  intro i j b1 b2 k1 k2 hne2 q1 l1 q2 l2 p1 p2
  by_cases ei:i=id
  ·subst ei
   rw[zR]at p1
   obtain rfl:=Option.some.inj p1
   exact fun q=>one j b2 k2 (fun e=>hne2 e.symm) q2 l2 p2 q.symm
  ·by_cases ej:j=id
   ·subst ej
    rw[zR]at p2
    obtain rfl:=Option.some.inj p2
    exact one i b1 k1 ei q1 l1 p1
   ·rw[zJ _ _ ei]at p1
    rw[zJ _ _ ej]at p2
    rcases hblk i k1 ei q1 with⟨rfl,rfl⟩|⟨e2,q1⟩
    ·cases l1
    ·rcases hblk j k2 ej q2 with⟨rfl,rfl⟩|⟨e3,q2⟩
     ·cases l2
     ·exact h.hinj i j b1 b2 k1 k2 hne2 q1 l1 q2 l2 p1 p2
 ·intro b o q
  rw[hsz]
  rcases q with q|⟨rfl,_⟩
  ·exact h.hlt b o q
  ·exact hblt
 ·refine⟨hos.trans h.hbelow.os,htp.trans h.hbelow.tape,hout.trans h.hbelow.output,by rw[hsz];exact h.hbelow.size,fun b hb=>?_⟩
  rw[hot b (fun e=>hge rfl (e▸hb))]
  exact h.hbelow.block b hb
section
variable {P:Program} {ty:Ty} {w0:B0} {nt:Nat} {s:AS} {d:Option Nat} {t:TypeId} {pos:String} {af:Array Edge} {g:Option (Nat×Bool)}
theorem zv3{s:AS}{id0 id:Nat}{k0 k:AB}:((s.setB id0 k0).setB id k)=⟨s.env,upd (upd s.blk id0 k0) id k⟩:=rfl
theorem zov(hty:TyOK P ty){u e:Nat}{ui ei:TI}{x y:Operand}{q:AV}{id0 es es2:Nat}{rows rows2:List (List AV)}{wr:Bool}(id:Nat)(hui:ty u=some ui)(hd1:ui.desc=.slice e)(hei:ty e=some ei)
 (hid:s.blk id=none) (hx:evO s x=some (.arr id0)) (hk:s.blk id0=some (.arr e es rows wr)) (hes:Nat.beq es ei.size=true) (hy:evO s y=some q) (hq:zaP s.blk q=some (es2,rows2)) (hes2:Nat.beq es2 ei.size=true)
 (hne:rows2≠[]) (hb:(rows.length+rows2.length)*ei.bytes≤140737488355328) (hb0:Nat.blt 0 ei.bytes=true) (hd:zt nt d=true):
 OkOp P w0 nt ⟨d,.call {callee:=.builtin .append,args:= #[x,y],argTypes:= #[u,u]},t,pos,af,g⟩ s (((s.setB id0 (.ro e es rows)).setB id (.arr e es (rows++rows2) false)).put d (.arr id)):=by
 intro β S a w next Q hs hn
 have hb0:=zfF hb0
 obtain rfl:=Nat.eq_of_beq_eq_true hes2
 obtain rfl:=Nat.eq_of_beq_eq_true hes
 obtain⟨_,_,_,hU⟩:=hty.get hui
 obtain⟨ci,dd,z,hE⟩:=hty.get hei
 have h1:=zah hs hx
 have h2:=zah hs hy
 obtain⟨b2,o2,c2,e2,hsrc⟩:=zoD hs.hh h2 hq hne
 obtain⟨hn1,hn2⟩:=zcC (w:=w) (b:=b2) (o:=o2) (n:=rows2.length) (fun i hi j hj=>by obtain⟨u,q1,q2,_⟩:=(hsrc i hi).2 j hj;exact⟨u,q1,q2⟩)
 have hlen:0 <rows2.length:=List.length_pos_iff.2 hne
 have hsmall:rows.length+rows2.length≤140737488355328:=by
  have:(rows.length+rows2.length)*1≤(rows.length+rows2.length)*ei.bytes:=Nat.mul_le_mul_left _ hb0
  omega
 have hl2:(zam w b2 o2 (rows2.length*ei.size)).length=rows2.length*ci.size:=by rw[zaf,hE.size]
 generalize e1:a.eval x=cx at h1
 cases h1
 rename_i bi hbi
 obtain⟨S1,hf,hv1,hvn⟩:=hs.hh.freeze hk hbi
 have hk1:upd s.blk id0 (.arr e ei.size rows false) id0=some (.arr e ei.size rows false):=zR _ _ _
 have hidne:id≠id0:=fun q=>by rw[q,hk]at hid;cases hid
 have hid1:upd s.blk id0 (.arr e ei.size rows false) id=none:=by rw[zJ _ _ hidne];exact hid
 have hblk2:upd (upd s.blk id0 (.arr e ei.size rows false)) id0 (.ro e ei.size rows)=upd s.blk id0 (.ro e ei.size rows):=by
  funext i
  by_cases q:i=id0
  ·subst q;rw[zR,zR]
  ·rw[zJ _ _ q,zJ _ _ q,zJ _ _ q]
 obtain⟨bi2,q1,hbr,hge⟩:=hf.hblk id0 _ hk1
 rw[hbi]at q1
 obtain rfl:=Option.some.inj q1
 have hbr':=hbr
 obtain⟨b3,b4,cs,b5,b6,b7,b8,b9,b10,b11⟩:=hbr
 have hrows1: ∀ i,i <rows.length→(rows.getD i []).length=ei.size∧ ∀ j,j <ei.size→VR nb S1 w (cs.getD (i*ei.size+j) undef) ((rows.getD i []).getD j .any)∧(cs.getD (i*ei.size+j) undef).oneCell'=true:=
  fun i hi=>⟨(b9 i hi).1,fun j hj=>(b9 i hi).2 j (by rw[(b9 i hi).1];exact hj)⟩
 have hrows2:=zdF (S:=S1) (w:=w) (b:=b2) (o:=o2) (es:=ei.size) (rows:=rows2) (fun i hi=>⟨(hsrc i hi).1,fun j hj=>by obtain⟨u,q1,q2,q3⟩:=(hsrc i hi).2 j hj;exact⟨u,q1,q2,hvn q3⟩⟩)
 have hfin: ∀ v' w',(Builtin.append_ #[u,u] t #[a.eval x,a.eval y]).run P w=.ok v' w'→next (a.put d v') w'→(Oper.wp P ⟨d,.call {callee:=.builtin .append,args:= #[x,y],argTypes:= #[u,u]},t,pos,af,g⟩ a w next Q):=by
  intro v' w' hr hnx
  unfold Oper.wp execOp
  simp[resolve,invoke,builtin,hr]
  exact hnx
 rw[e1,e2]at hfin
 have hpl:(cs.toList.take (rows.length*ei.size)).length=rows.length*ei.size:=by
  have hz:cs.toList.length=bi.c*ei.size:=by simp[b8]
  have:=Nat.mul_le_mul_right ei.size b6
  rw[b4]at this
  rw[List.length_take,hz]
  omega
 have hpg: ∀ m,m <rows.length*ei.size→(cs.toList.take (rows.length*ei.size)).getD m undef=cs.getD m undef:=by
  intro m hm
  rw[←zag]
  simp only[List.getD_eq_getElem?_getD,List.getElem?_take,if_pos hm]
 have hrowsP: ∀ i,i <rows.length→(rows.getD i []).length=ei.size∧ ∀ j,j <ei.size→VR nb S1 w ((cs.toList.take (rows.length*ei.size)).getD (i*ei.size+j) undef) ((rows.getD i []).getD j .any)∧((cs.toList.take (rows.length*ei.size)).getD (i*ei.size+j) undef).oneCell'=true:=by
  intro i hi
  refine⟨(hrows1 i hi).1,fun j hj=>?_⟩
  rw[hpg _ (zcA hi hj)]
  exact(hrows1 i hi).2 j hj
 by_cases hroom:bi.n+rows2.length≤bi.c
 ·have hfit:bi.n*ci.size+(zam w b2 o2 (rows2.length*ei.size)).length≤cs.size:=by
   rw[hl2,b8,hE.size, ←Nat.add_mul];exact Nat.mul_le_mul_right _ hroom
  have hr:=run_append_room (P:=P) w u t e ci (hU.slice hd1) hE.info bi.b bi.n bi.c cs b5 ⟨b2,o2,none⟩ rows2.length c2 (zam w b2 o2 (rows2.length*ei.size)) hl2 hn1 hn2 hroom hfit
  refine hfin _ _ hr ?_
  rw[b4,hE.size]
  rw[b4,hE.size]at hfit
  rw[b4]at hroom
  have hcell: ∀ m,m <rows.length*ei.size→((cs.toList.take (rows.length*ei.size)++zam w b2 o2 (rows2.length*ei.size)++cs.toList.drop (rows.length*ei.size+(zam w b2 o2 (rows2.length*ei.size)).length)).toArray).getD m undef=cs.getD m undef:=by
   intro m hm
   rw[←zag,List.toList_toArray,List.append_assoc,zc8 _ _ _ (by rw[hpl];exact hm),hpg m hm]
  have hsz':((cs.toList.take (rows.length*ei.size)++zam w b2 o2 (rows2.length*ei.size)++cs.toList.drop (rows.length*ei.size+(zam w b2 o2 (rows2.length*ei.size)).length)).toArray).size=bi.c*ei.size:=by
   simp only[List.size_toArray,List.length_append,hpl,List.length_drop,Array.length_toList]
   omega
  obtain⟨S2,hh2,hv2⟩:=hf.app (id:=id) (rows':=rows++rows2) (w':=w.setRow bi.b (cs.toList.take (rows.length*ei.size)++zam w b2 o2 (rows2.length*ei.size)++cs.toList.drop (rows.length*ei.size+(zam w b2 o2 (rows2.length*ei.size)).length)).toArray)
   hk1 hbi hid1 (by simp) (fun b q=>setRow_other w _ _ _ q) rfl rfl rfl (setRow_heap w _ cs _ e _ b5) hsz' (fun o ho=>by
    have hlt:o <cs.size:=by
     rw[b8];exact Nat.lt_of_lt_of_le ho (Nat.mul_le_mul_right _ b6)
    have:=hcell o (by rw[b4]at ho;exact ho)
    simp only[World.cell?,setRow_heap w _ cs _ e _ b5,b5]
    rw[Array.getD_eq_getD_getElem?,Array.getD_eq_getD_getElem?]at this
    have h3:o <((cs.toList.take (rows.length*ei.size)++zam w b2 o2 (rows2.length*ei.size)++cs.toList.drop (rows.length*ei.size+(zam w b2 o2 (rows2.length*ei.size)).length)).toArray).size:=by rw[hsz', ←b8];exact hlt
    rw[Array.getElem?_eq_getElem h3,Array.getElem?_eq_getElem hlt]at this⊢
    simpa using this) (by rw[b4,List.length_append];omega) (by rw[List.length_append];exact hroom)
   (fun hv=>zdT hpl (zaf _ _ _ _) hrowsP hrows2 hv)
  have hs2:SR w0 nt (upd β id ⟨bi.b,(rows++rows2).length,bi.c,ei.size⟩) S2 ((s.setB id0 (.ro e ei.size rows)).setB id (.arr e ei.size (rows++rows2) false)) a _:=
   ⟨by rw[hblk2]at hh2;exact hh2,fun u y q=>hv2 (hv1 (hs.henv u y q)),hs.hsize,hs.hdefers⟩
  have:=hs2.put hd (x:=.arr id) (.arr id _ (zR _ _ _))
  simp only[List.length_append]at this
  exact hn _ _ _ _ this
 ·have hread: ∀ i,i <rows.length→ ∀ j,j <ei.size→ ∃ u,w.cell? ⟨bi.b,0+(i*ei.size+j),none⟩=some u∧u.oneCell'=true∧VR nb S1 w u ((rows.getD i []).getD j .any):=by
   intro i hi j hj
   have hlt:i*ei.size+j <cs.size:=by
    rw[b8];exact Nat.lt_of_lt_of_le (zcA hi hj) (Nat.mul_le_mul_right _ (by omega))
   obtain⟨r1,r2⟩:=(hrows1 i hi).2 j hj
   exact⟨cs.getD (i*ei.size+j) undef,by rw[Nat.zero_add];simp[World.cell?,b5,Array.getD,hlt],r2,r1⟩
  obtain⟨ho1,_⟩:=zcC (w:=w) (b:=bi.b) (o:=0) (n:=rows.length) (fun i hi j hj=>by obtain⟨u,q1,q2,_⟩:=hread i hi j hj;exact⟨u,q1,q2⟩)
  have ho2:=zdF (S:=S1) (w:=w) (b:=bi.b) (o:=0) (es:=ei.size) (rows:=rows) (fun i hi=>⟨(hrows1 i hi).1,fun j hj=>hread i hi j hj⟩)
  have hr:=run_append_grow (P:=P) w u t e ci z (hU.slice hd1) hE.info hE.zero ⟨bi.b,0,none⟩ bi.n bi.c (zam w bi.b 0 (rows.length*ei.size)) (by rw[zaf,hE.size,b4]) ho1
   ⟨b2,o2,none⟩ rows2.length c2 (zam w b2 o2 (rows2.length*ei.size)) hl2 hn1 (by omega) (by omega) (growslice_fits (by omega) (by rw[hE.bytes,b4];omega))
  refine hfin _ _ hr ?_
  rw[b4]
  generalize hcap:grownCap w (rows.length+rows2.length) bi.c e=cap
  have hc1:rows.length+rows2.length≤cap:=hcap▸grownCap_ge w _ _ e
  have hc2:cap≤maxLen:=hcap▸grownCap_le_maxLen w _ _ _ (by simp only[maxLen];omega)
  generalize hw':w.drew.alloc (.cells ((zam w bi.b 0 (rows.length*ei.size)).toArray++(zam w b2 o2 (rows2.length*ei.size)).toArray++Builtin.zeroCells z.cells (cap-(rows.length+rows2.length))) e)=w'
  have hB:Below w.heap.size w w':=by rw[←hw'];exact(Below.refl _ _).drew.alloc (Nat.le_refl _) _
  have hw'sz:w'.heap.size=w.heap.size+1:=by rw[←hw'];simp
  have hheap:w'.heap[w.heap.size]? =some (.cells (zam w bi.b 0 (rows.length*ei.size)++zam w b2 o2 (rows2.length*ei.size)++(Builtin.zeroCells z.cells (cap-(rows.length+rows2.length))).toList).toArray e (0,0)):=by
   rw[←hw',show w.heap.size=w.drew.heap.size from rfl,heap_alloc_new]
   congr 2
   apply Array.ext'
   simp
  have ht:=hf.turn (k':=.ro e ei.size rows) (S':=S1) hk1 rfl hbi (fun b o=>⟨.inl,fun q=>q.elim (fun q=>q) (fun q=>q.2)⟩) (fun _=>zkU hbr')
  rw[hblk2]at ht
  have hid2:upd s.blk id0 (.ro e ei.size rows) id=none:=by rw[zJ _ _ hidne];exact hid
  have hβm: ∀ i b,β i=some b→upd β id ⟨w.heap.size,(rows++rows2).length,cap,ei.size⟩ i=some b:=by
   intro i b q
   by_cases e:i=id
   ·subst e
    obtain⟨k,hk⟩:=hs.hh.hdom i b q
    rw[hid]at hk;cases hk
   ·rw[zJ _ _ e];exact q
  have hlt:w.heap.size <w'.heap.size:=by omega
  have hn2:=ht.1.new hB hid2 (k:=.arr e ei.size (rows++rows2) false) (bi:=⟨w.heap.size,(rows++rows2).length,cap,ei.size⟩) (S':=fun b o=>S1 b o∨(b=w.heap.size∧o <(rows++rows2).length*ei.size))
   (fun b o=>⟨fun q=>q.elim .inl (fun q=>.inr ⟨by omega,by omega,.inr q⟩),fun q=>q.elim .inl (fun q=>q.2.2)⟩) (Nat.le_refl _)
   ⟨rfl,rfl,_,hheap,by simp only[List.length_append];exact hc1,hc2,by
    simp only[List.size_toArray,List.length_append,zaf,Array.length_toList,size_zeroCells,hE.zsize]
    rw[←Nat.add_mul, ←Nat.add_mul]
    congr 1
    omega,zdT (zaf _ _ _ _) (zaf _ _ _ _) ho2 hrows2 (fun q=>q.mono (fun _ _ q=>q) (fun b o q2=>⟨.inl q2,zch hB (hf.hlt b o q2)⟩)),(fun q=>by cases q),
    (fun _ o=>⟨fun q=>q.elim (fun q=>absurd (hf.hlt _ _ q) (Nat.lt_irrefl _)) (fun q=>q.2),fun q=>.inr ⟨rfl,q⟩⟩),fun _ q=>by cases q⟩
  have hs2:SR w0 nt (upd β id ⟨w.heap.size,(rows++rows2).length,cap,ei.size⟩) (fun b o=>S1 b o∨(b=w.heap.size∧o <(rows++rows2).length*ei.size)) ((s.setB id0 (.ro e ei.size rows)).setB id (.arr e ei.size (rows++rows2) false)) a w':=
   ⟨hn2.1,fun u y q=>hn2.2 (hv1 (hs.henv u y q)),hs.hsize,hs.hdefers⟩
  have:=hs2.put hd (x:=.arr id) (.arr id _ (zR _ _ _))
  simp only[List.length_append]at this
  exact hn _ _ _ _ this
end
end Go.Aw
namespace Go.Aw
open Go.RowKit
def OwnV(S':St)(w w':World)(v:Value)(e es:Nat)(rows:List (List AV))(wr:Bool)(b:Nat):Prop:=
 ∃ bi:BI,bi.b=b∧v=.slice (some ⟨bi.b,0,none⟩) bi.n bi.c∧w.heap.size≤bi.b∧BR nb S' w' bi (.arr e es rows wr)
def RV1(S':St)(w w':World)(v:Value)(b:Nat):AV→Prop
 | .own e es rows wr=>OwnV S' w w' v e es rows wr b
 |x=>VR nb S' w' v x
def za3:AV→Bool
 | .own .. =>true
 |_=>false
def RV(S':St)(w w':World)(v:Value):AV→Prop
 | .tup xs=> ∃ (cs:Array Value) (bs:Nat→Nat),v=.tuple cs∧cs.size=xs.length∧(∀ j,j <xs.length→RV1 S' w w' (cs.getD j undef) (bs j) (xs.getD j .any))∧
  ∀ i j,i <j→j <xs.length→za3 (xs.getD i .any)=true→za3 (xs.getD j .any)=true→bs i≠bs j
 |x=> ∃ b,RV1 S' w w' v b x
def PC(P:Program)(f:Nat)(args:List AV)(res:AV):Prop:=
 ∀ (w:World) (S0:St) (ca:Array Value),(∀ b o,S0 b o→b <w.heap.size)→ca.size=args.length→(∀ j,j <args.length→VR nb S0 w (ca.getD j undef) (args.getD j .any))→
   Calls P f ca w fun e w'=> ∃ v S',e=.returned v∧Below w.heap.size w w'∧(∀ b o,S0 b o→S' b o)∧(∀ b o,S' b o→b <w.heap.size→S0 b o)∧(∀ b o,S' b o→b <w'.heap.size)∧RV S' w w' v res
theorem HR.extS{w0:B0}{w w':World}{β:Bt}{S S':St}{blk:Bk}(h:HR w0 β S blk w)(hB:Below w.heap.size w w')(h1: ∀ b o,S b o→S' b o)(h2: ∀ b o,S' b o→b <w.heap.size→S b o)(h3: ∀ b o,S' b o→b <w'.heap.size):
 HR w0 β S' blk w'∧ ∀ {v x},VR β S w v x→VR β S' w' v x:=by
 have hSm: ∀ b o,S b o→S' b o∧w'.cell? ⟨b,o,none⟩=w.cell? ⟨b,o,none⟩:=fun b o q=>⟨h1 b o q,zch hB (h.hlt b o q)⟩
 have hgs:w0.heap.size≤w.heap.size:=h.hbelow.size
 refine⟨⟨?_,h.hdom,h.hinj,fun b o q=>h1 b o (h.hold b o q),fun b o q hl=>h.hnew b o (h2 b o q (by have:=w0.hlt0 b hl;have:w0.w.heap.size≤w.heap.size:=hgs;omega)) hl,h3,h.hbelow.trans (.of hB fun k hk=>Nat.lt_of_lt_of_le (w0.hlt0 k hk) hgs)⟩,fun q=>q.mono (fun _ _ q=>q) hSm⟩
 intro id k hk
 obtain⟨bi,e1,e2,e3⟩:=h.hblk id k hk
 exact⟨bi,e1,e2.ext (fun _ _ q=>q) hSm (fun hl=>hB.block _ (e2.lt hl)) (fun hl o q=>h2 _ o q (e2.lt hl)),e3⟩
theorem HR.addB{w0:B0}{w:World}{β:Bt}{S:St}{blk:Bk}(h:HR w0 β S blk w){id:Nat}(hid:blk id=none){k:AB}{bi:BI}(hk:BR nb S w bi k)(hb: ¬w0.old bi.b)
 (hne: ∀ i bj kj,β i=some bj→blk i=some kj→kj.live=true→bj.b≠bi.b):
 HR w0 (upd β id bi) S (upd blk id k) w∧ ∀ {v x},VR β S w v x→VR (upd β id bi) S w v x:=by
 have hb': ∀ i b,β i=some b→upd β id bi i=some b:=by
  intro i b q
  by_cases e:i=id
  ·subst e;obtain⟨k,hk⟩:=h.hdom i b q;rw[hid]at hk;cases hk
  ·rw[zJ β bi e];exact q
 have hSm: ∀ b o,S b o→S b o∧w.cell? ⟨b,o,none⟩=w.cell? ⟨b,o,none⟩:=fun b o q=>⟨q,rfl⟩
 refine⟨⟨?_,?_,?_,h.hold,h.hnew,h.hlt,h.hbelow⟩,fun q=>q.mono hb' hSm⟩
 ·intro i kk q
  by_cases e:i=id
  ·subst e
   have:some k=some kk:=(zR blk i k).symm.trans q
   obtain rfl:=Option.some.inj this
   exact⟨bi,zR β i bi,hk.ext (fun _ _ q=>by cases q) hSm (fun _=>rfl) (fun _ _ q=>q),fun _=>hb⟩
  ·rw[zJ blk k e]at q
   obtain⟨b2,h1,h2,h3⟩:=h.hblk i kk q
   exact⟨b2,hb' i b2 h1,h2.ext hb' hSm (fun _=>rfl) (fun _ _ q=>q),h3⟩
 ·intro i b q
  by_cases e:i=id
  ·subst e;exact⟨k,zR blk i k⟩
  ·rw[zJ β bi e]at q
   obtain⟨k2,hk2⟩:=h.hdom i b q
   exact⟨k2,by rw[zJ blk k e];exact hk2⟩
 ·intro i j b1 b2 k1 k2 hne2 q1 l1 q2 l2 p1 p2
  by_cases ei:i=id
  ·subst ei
   rw[zR]at p1
   obtain rfl:=Option.some.inj p1
   have ej:j≠i:=fun e=>hne2 e.symm
   rw[zJ _ _ ej]at q2 p2
   exact fun q=>hne j b2 k2 p2 q2 l2 q.symm
  ·rw[zJ _ _ ei]at q1 p1
   by_cases ej:j=id
   ·subst ej
    rw[zR]at p2
    obtain rfl:=Option.some.inj p2
    exact hne i b1 k1 p1 q1 l1
   ·rw[zJ _ _ ej]at q2 p2
    exact h.hinj i j b1 b2 k1 k2 hne2 q1 l1 q2 l2 p1 p2
def thaw1(id:Nat)(blk:Bk):AV→Option (AV×Bk)
 | .own e es rows wr=>match blk id with
   |none=>some (.arr id,upd blk id (.arr e es rows wr))
   |some _=>none
 |x=>match zf5 x with
  |true=>some (x,blk)
  |false=>none
def thawL(id:Nat)(blk:Bk):List AV→Option (List AV×Bk)
 |[]=>some ([],blk)
 |x::l=>match thaw1 id blk x with
  |some (y,blk1)=>match thawL (id+1000) blk1 l with
   |some (ys,blk2)=>some (y::ys,blk2)
   |none=>none
  |none=>none
def thaw(id:Nat)(blk:Bk):AV→Option (AV×Bk)
 | .tup xs=>match thawL id blk xs with
   |some (ys,blk')=>some (.tup ys,blk')
   |none=>none
 |x=>thaw1 id blk x
def zkh(β:Bt)(blk:Bk)(b:Nat):Prop:= ∀ i bj kj,β i=some bj→blk i=some kj→kj.live=true→bj.b≠b
theorem zm7{w0:B0}{w w':World}{β:Bt}{S:St}{blk blk':Bk}(h:HR w0 β S blk w')(hw:w0.heap.size≤w.heap.size){id b:Nat}{x y:AV}(ht:thaw1 id blk x=some (y,blk')){v:Value}(hv:RV1 S w w' v b x)(hf:za3 x=true→zkh β blk b):
 ∃ β',HR w0 β' S blk' w'∧VR β' S w' v y∧(∀ {v x},VR β S w' v x→VR β' S w' v x)∧ ∀ c,(za3 x=true→c≠b)→zkh β blk c→zkh β' blk' c:=by
 by_cases e:za3 x=true
 ·cases x <;>simp[za3]at e
  rename_i e es rows wr
  simp only[thaw1]at ht
  split at ht
  ·rename_i hid
   obtain⟨rfl,rfl⟩:=Prod.mk.inj (Option.some.inj ht)
   obtain⟨bi,rfl,rfl,hge,hbr⟩:=hv
   obtain⟨h1,h2⟩:=h.addB hid hbr (fun ho=>by have:=w0.hlt0 _ ho;have:w0.w.heap.size≤w.heap.size:=hw;omega) (hf rfl)
   refine⟨_,h1,.arr id _ (zR _ _ _),h2,fun c hc hfc i bj kj p q l=>?_⟩
   by_cases ei:i=id
   ·subst ei
    rw[zR]at p
    obtain rfl:=Option.some.inj p
    exact fun q=>hc rfl q.symm
   ·rw[zJ _ _ ei]at p q
    exact hfc i bj kj p q l
  ·cases ht
 ·have e':za3 x=false:=by simpa using e
  have hx:zf5 x=true∧y=x∧blk'=blk:=by
   cases x <;>simp only[thaw1]at ht <;>first
    |(simp[za3]at e';done)
    |(split at ht
      ·obtain⟨rfl,rfl⟩:=Prod.mk.inj (Option.some.inj ht);exact⟨by assumption,rfl,rfl⟩
      ·cases ht)
  obtain⟨_,rfl,rfl⟩:=hx
  have hv':VR nb S w' v y:=by
   cases y <;>first|exact hv|(simp[za3]at e')
  exact⟨β,h,VR.up hv',fun q=>q,fun c _ q=>q⟩
theorem zmO{w0:B0}{w w':World}{S:St}(hw:w0.heap.size≤w.heap.size): ∀ {xs:List AV} {id:Nat} {β:Bt} {blk blk':Bk} {ys:List AV} {bs:Nat→Nat} {cv:Nat→Value},HR w0 β S blk w'→thawL id blk xs=some (ys,blk')→
 (∀ j,j <xs.length→RV1 S w w' (cv j) (bs j) (xs.getD j .any))→(∀ i j,i <j→j <xs.length→za3 (xs.getD i .any)=true→za3 (xs.getD j .any)=true→bs i≠bs j)→
 (∀ j,j <xs.length→za3 (xs.getD j .any)=true→zkh β blk (bs j))→
 ∃ β',HR w0 β' S blk' w'∧ys.length=xs.length∧(∀ j,j <ys.length→VR β' S w' (cv j) (ys.getD j .any))∧ ∀ {v x},VR β S w' v x→VR β' S w' v x
 |[],id,β,blk,blk',ys,bs,cv,h,ht,_,_,_=>by
  obtain⟨rfl,rfl⟩:=Prod.mk.inj (Option.some.inj ht)
  exact⟨β,h,rfl,fun j hj=>by simp at hj,fun q=>q⟩
 |x::l,id,β,blk,blk',ys,bs,cv,h,ht,h1,h2,h3=>by
  simp only[thawL]at ht
  split at ht
  ·rename_i y blk1 e1
   split at ht
   ·rename_i ys2 blk2 e2
    obtain⟨rfl,rfl⟩:=Prod.mk.inj (Option.some.inj ht)
    obtain⟨β1,r1,r2,r3,r4⟩:=zm7 h hw e1 (h1 0 (by simp)) (fun q=>h3 0 (by simp) q)
    obtain⟨β2,q1,q2,q3,q4⟩:=zmO hw (bs:=fun j=>bs (j+1)) (cv:=fun j=>cv (j+1)) r1 e2 (fun j hj=>by simpa using h1 (j+1) (by simpa using hj))
     (fun i j hij hj o1 o2=>h2 (i+1) (j+1) (by omega) (by simpa using hj) (by simpa using o1) (by simpa using o2))
     (fun j hj o=>r4 _ (fun o0=>fun e=>h2 0 (j+1) (by omega) (by simpa using hj) (by simpa using o0) (by simpa using o) e.symm) (h3 (j+1) (by simpa using hj) (by simpa using o)))
    refine⟨β2,q1,by simp[q2],fun j hj=>?_,fun q=>q4 (r3 q)⟩
    cases j with
    |zero=>simpa using q4 r2
    |succ j=>simpa using q3 j (by simpa using hj)
   ·cases ht
  ·cases ht
theorem zmv{w0:B0}{w w':World}{β:Bt}{S:St}{blk blk':Bk}(h:HR w0 β S blk w')(hw:w0.heap.size≤w.heap.size){id:Nat}{x y:AV}(ht:thaw id blk x=some (y,blk')){v:Value}(hv:RV S w w' v x)(hf: ∀ b,w.heap.size≤b→zkh β blk b):
 ∃ β',HR w0 β' S blk' w'∧VR β' S w' v y∧ ∀ {v x},VR β S w' v x→VR β' S w' v x:=by
 by_cases e: ∃ xs,x=.tup xs
 ·obtain⟨xs,rfl⟩:=e
  simp only[thaw]at ht
  split at ht
  ·rename_i ys b2 e1
   obtain⟨rfl,rfl⟩:=Prod.mk.inj (Option.some.inj ht)
   obtain⟨cs,bs,rfl,h2,h3,h4⟩:=hv
   obtain⟨β',q1,q2,q3,q4⟩:=zmO hw (cv:=fun j=>cs.getD j undef) h e1 h3 h4 (fun j hj o=>by
    have:=h3 j hj
    generalize xs.getD j .any=z at this o
    cases z <;>simp[za3]at o
    obtain⟨bi,hbe,_,hge,_⟩:=this
    exact hf _ (hbe▸hge))
   exact⟨β',q1,.tup cs ys (by omega) q3,q4⟩
  ·cases ht
 ·have ht':thaw1 id blk x=some (y,blk'):=by cases x <;>first|exact ht|exact absurd ⟨_,rfl⟩ e
  have hv': ∃ b,RV1 S w w' v b x:=by cases x <;>first|exact hv|exact absurd ⟨_,rfl⟩ e
  obtain⟨b,hv'⟩:=hv'
  obtain⟨β',q1,q2,q3,_⟩:=zm7 h hw ht' hv' (fun o=>by
   cases x <;>simp[za3]at o
   obtain⟨bi,rfl,_,hge,_⟩:=hv'
   exact hf _ hge)
  exact⟨β',q1,q2,q3⟩
def argS(blk:Bk):AV→Option AV
 | .arr id=>match blk id with
   |some (.ar _ _ es rows false)=>some (.lst es rows false)
   |some (.ro _ es rows)=>some (.lst es rows false)
   |_=>none
 | .ptr id off=>match blk id with
   |some (.rob cells)=>some (.eptr cells off)
   |_=>none
 |x=>match zaj x with
  |true=>some x
  |false=>none
def argSs(blk:Bk):List AV→Option (List AV)
 |[]=>some []
 |x::l=>match argS blk x,argSs blk l with
  |some y,some r=>some (y::r)
  |_,_=>none
def argV(blk:Bk):AV→Option AV
 | .agg cs=>match argSs blk cs with
   |some cs'=>some (.agg cs')
   |none=>none
 |x=>argS blk x
theorem zqH{w0:B0}{w:World}{β:Bt}{S:St}{blk:Bk}(h:HR w0 β S blk w){v:Value}{x y:AV}(hv:VR β S w v x)(ha:argS blk x=some y):VR nb S w v y:=by
 by_cases e: ∃ id,x=.arr id
 ·obtain⟨id,rfl⟩:=e
  simp only[argS]at ha
  split at ha
  ·rename_i hk
   obtain rfl:=Option.some.inj ha
   exact zbp rfl (zmx h (.inl hk) hv)
  ·rename_i hk
   obtain rfl:=Option.some.inj ha
   exact zbp rfl (zmx (pin:=none) h (.inr hk) hv)
  ·cases ha
 ·by_cases e0: ∃ id off,x=.ptr id off
  ·obtain⟨id,off,rfl⟩:=e0
   simp only[argS]at ha
   split at ha
   ·rename_i cells hk
    obtain rfl:=Option.some.inj ha
    cases hv
    rename_i bi hbi
    obtain⟨bi',h1,h2,_⟩:=h.hblk id _ hk
    rw[hbi]at h1
    obtain rfl:=Option.some.inj h1
    have:=VRi.eptr (S:=S) (w:=w) (β:=nb) bi.b 0 off cells (fun j=>((w.cell? ⟨bi.b,j,none⟩).getD undef)) (fun j hj=>by
     obtain⟨q1,u,q2,q3,_⟩:=h2 j hj
     rw[Nat.zero_add,q2]
     exact⟨q1,rfl,q3⟩) (fun j hj=>by
     obtain⟨_,u,q2,_,q4⟩:=h2 j hj
     simp only[q2]
     exact q4)
    rw[Nat.zero_add]at this
    exact this
   ·cases ha
  have:zaj x=true∧y=x:=by
   cases x <;>simp only[argS]at ha <;>first
    |exact absurd ⟨_,rfl⟩ e
    |exact absurd ⟨_,_,rfl⟩ e0
    |(split at ha
      ·exact⟨by assumption,(Option.some.inj ha).symm⟩
      ·cases ha)
  obtain⟨hc,rfl⟩:=this
  exact zc3 hc hv
theorem zhd{w0:B0}{w:World}{β:Bt}{S:St}{blk:Bk}(h:HR w0 β S blk w): ∀ {xs ys:List AV} {cv:Nat→Value},argSs blk xs=some ys→(∀ j,j <xs.length→VR β S w (cv j) (xs.getD j .any))→
 ys.length=xs.length∧ ∀ j,j <ys.length→VR nb S w (cv j) (ys.getD j .any)
 |[],ys,cv,ha,_=>by obtain rfl:=Option.some.inj ha;exact⟨rfl,fun j hj=>by simp at hj⟩
 |x::l,ys,cv,ha,hv=>by
  simp only[argSs]at ha
  split at ha
  ·rename_i y r e1 e2
   obtain rfl:=Option.some.inj ha
   obtain⟨q1,q2⟩:=zhd h (cv:=fun j=>cv (j+1)) e2 (fun j hj=>by simpa using hv (j+1) (by simpa using hj))
   refine⟨by simp[q1],fun j hj=>?_⟩
   cases j with
   |zero=>simpa using zqH h (hv 0 (by simp)) e1
   |succ j=>simpa using q2 j (by simpa using hj)
  ·cases ha
theorem zcb{w0:B0}{w:World}{β:Bt}{S:St}{blk:Bk}(h:HR w0 β S blk w){v:Value}{x y:AV}(hv:VR β S w v x)(ha:argV blk x=some y):VR nb S w v y:=by
 by_cases e: ∃ cs,x=.agg cs
 ·obtain⟨cs,rfl⟩:=e
  simp only[argV]at ha
  split at ha
  ·rename_i cs' e1
   obtain rfl:=Option.some.inj ha
   cases hv with
   |agg c xs h1 h3 h4=>
    obtain⟨q1,q2⟩:=zhd h (cv:=fun j=>c.getD j undef) e1 h3
    exact .agg c cs' (by omega) q2 (fun j hj=>h4 j (by omega))
  ·cases ha
 ·exact zqH h hv (by cases x <;>first|exact ha|exact absurd ⟨_,rfl⟩ e)
def za4(s:AS):List Operand→Option (List AV)
 |[]=>some []
 |x::l=>match evO s x with
  |some v=>match argV s.blk v,za4 s l with
   |some y,some r=>some (y::r)
   |_,_=>none
  |none=>none
theorem zc2{w0:B0}{nt:Nat}{s:AS}{w:World}{β:Bt}{S:St}{a:Act}(hs:SR w0 nt β S s a w): ∀ {l:List Operand} {xs:List AV},za4 s l=some xs→l.length=xs.length∧
 ∀ j,j <xs.length→VR nb S w ((l.map a.eval).getD j undef) (xs.getD j .any)
 |[],xs,h=>by obtain rfl:=Option.some.inj h;exact⟨rfl,fun j hj=>by simp at hj⟩
 |x::l,xs,h=>by
  simp only[za4]at h
  split at h
  ·rename_i v hv
   split at h
   ·rename_i y r e1 e2
    obtain rfl:=Option.some.inj h
    obtain⟨q1,q2⟩:=zc2 hs e2
    refine⟨by simp[q1],fun j hj=>?_⟩
    cases j with
    |zero=>simpa using zcb hs.hh (zah hs hv) e1
    |succ j=>simpa using q2 j (by simpa using hj)
   ·cases h
  ·cases h
section
variable {P:Program} {ty:Ty} {w0:B0} {nt:Nat} {s:AS} {d:Option Nat} {t:TypeId} {pos:String} {af:Array Edge} {g:Option (Nat×Bool)}
theorem ztG{f:Nat}{fn:Func}{ops:Array Operand}{ts:Array TypeId}{xs:List AV}{res y:AV}{blk':Bk}(id:Nat)(hf:P.funcs[f]? =some fn)(hbody:fn.body.isNone=false)(hname:(fn.name=="runtime.NumGoroutine")=false)
 (ha:za4 s ops.toList=some xs) (hc:PC P f xs res) (ht:thaw id s.blk res=some (y,blk')) (hd:zt nt d=true):
 OkOp P w0 nt ⟨d,.call {callee:=.value (.func f),args:=ops,argTypes:=ts},t,pos,af,g⟩ s ((⟨s.env,blk'⟩:AS).put d y):=by
 intro β S a w next Q hs hn
 obtain⟨e1,e2⟩:=zc2 hs ha
 have hr:(execOp a.eval ⟨d,.call {callee:=.value (.func f),args:=ops,argTypes:=ts},t,pos,af,g⟩).run P w=.ok (.enter f (ops.map a.eval)) w:=by
  have hcf:(callFunc f (ops.map a.eval)).run P w=.ok (.enter f (ops.map a.eval)) w:=by
   unfold callFunc
   rw[Sem.run_bind,run_program,Result.andThen_ok]
   simp only[hf,hname,hbody,Bool.false_eq_true,if_false,Sem.run_pure]
  simp[execOp,resolve,Act.eval,Deferred.ofValue,invoke,hcf]
 unfold Oper.wp
 rw[hr]
 simp only[Oper.upon]
 have hgs:w0.heap.size≤w.heap.size:=hs.hh.hbelow.size
 refine(hc w S (ops.map a.eval) hs.hh.hlt (by simpa using e1) (fun j hj=>by
  have:=e2 j hj
  rw[←zag,Array.toList_map];exact this)).mono ?_
 rintro e w' ⟨v,S',rfl,hB,h1,h2,h3,hv⟩
 obtain⟨q1,q2⟩:=hs.hh.extS hB h1 h2 h3
 obtain⟨β',r1,r2,r3⟩:=zmv q1 hgs ht hv (fun b hb i bj kj p q l=>by
  obtain⟨bi,z1,z2,_⟩:=hs.hh.hblk i kj q
  rw[p]at z1
  obtain rfl:=Option.some.inj z1
  have:=z2.lt l
  omega)
 have hs2:SR w0 nt β' S' ⟨s.env,blk'⟩ a w':=⟨r1,fun u z q=>r3 (q2 (hs.henv u z q)),hs.hsize,hs.hdefers⟩
 exact hn _ _ _ _ (hs2.put hd r2)
end
end Go.Aw
namespace Go.Aw
open Go.RowKit
def WL(P:Program)(w0:B0)(nt:Nat)(ops:Array Oper)(l:List Oper)(s:AS)(K:AS→Prop):Prop:=
 ∀ β S a w Q,SR w0 nt β S s a w→(∀ β' S' a' w' s',K s'→SR w0 nt β' S' s' a' w'→Q .normal a' w')→wpList P ops Q l a w
def AC(P:Program)(w0:B0)(nt:Nat)(c:Code)(s:AS)(K:Exit→AS→Prop):Prop:=
 ∀ β S a w Q,SR w0 nt β S s a w→(∀ e β' S' a' w' s',K e s'→SR w0 nt β' S' s' a' w'→Q e a' w')→c.wp P Q a w
section
variable {P:Program} {ty:Ty} {w0:B0} {nt:Nat} {s s':AS} {ops:Array Oper} {l:List Oper} {o:Oper} {K:AS→Prop} {C:Exit→AS→Prop}
theorem zh(h:K s):WL P w0 nt ops [] s K:=fun β S a w _ hs hq=>hq β S a w s h hs
theorem ziK(hg:o.guard=none)(h:OkOp P w0 nt o s s')(r:WL P w0 nt ops l s' K):WL P w0 nt ops (o::l) s K:=by
 intro β S a w Q hs hq
 refine wpList_plain hg fun N hN=>h β S a w N Q hs fun β' S' a' w' hs'=>hN _ _ (r β' S' a' w' Q hs' hq)
theorem zg3{β:Bt}{S:St}{a:Act}{w:World}(hs:SR w0 nt β S s a w){j t:Nat}{b:Bool}(hj:(ops[j]?).bind (·.dst)=some t)(ht:s.env t=some (.bool b)):yielded ops a.tmps j=some b:=by
 have h1:=hs.henv t _ ht
 unfold yielded
 rw[hj]
 simp only[Option.bind_some]
 have:t <a.tmps.size:=by
  rcases Nat.lt_or_ge t a.tmps.size with q|q
  ·exact q
  ·rw[Array.getD_eq_getD_getElem?,Array.getElem?_eq_none q]at h1
   cases h1
 rw[Array.getD_eq_getD_getElem?,Array.getElem?_eq_getElem this]at h1
 rw[Array.getElem?_eq_getElem this]
 simp only[Option.getD_some]at h1
 generalize a.tmps[t]=v at h1
 cases h1
 rfl
theorem zm5{β:Bt}{S:St}{a:Act}{w:World}(hs:SR w0 nt β S s a w){j t:Nat}(hj:(ops[j]?).bind (·.dst)=some t)(ht:s.env t=some (.tup [])):yielded ops a.tmps j=none:=by
 have h1:=hs.henv t _ ht
 unfold yielded
 rw[hj]
 simp only[Option.bind_some]
 rw[Array.getD_eq_getD_getElem?]at h1
 cases q:a.tmps[t]? with
 |none=>rfl
 |some v=>
  rw[q]at h1
  simp only[Option.getD_some]at h1
  cases h1
  rfl
theorem zkl{β:Bt}{S:St}{w:World}:VR β S w undef (.tup []):=.tup #[] [] rfl (fun j hj=>by simp at hj)
theorem zse{j t:Nat}{b c:Bool}(hg:o.guard=some (j,b))(hj:(ops[j]?).bind (·.dst)=some t)(ht:s.env t=some (.bool c))(hc:c= !b)(hd:zt nt o.dst=true)(r:WL P w0 nt ops l (s.put o.dst (.tup [])) K):
 WL P w0 nt ops (o::l) s K:=by
 intro β S a w Q hs hq
 refine wpList_step fun N hN=>?_
 rw[if_neg (by simp only[Region.wanted,hg,zg3 hs hj ht,hc];cases b <;>decide)]
 exact hN _ _ (r β S _ w Q (hs.put hd zkl) hq)
theorem ztH{j t:Nat}{b:Bool}(hg:o.guard=some (j,b))(hj:(ops[j]?).bind (·.dst)=some t)(ht:s.env t=some (.tup []))(hd:zt nt o.dst=true)(r:WL P w0 nt ops l (s.put o.dst (.tup [])) K):
 WL P w0 nt ops (o::l) s K:=by
 intro β S a w Q hs hq
 refine wpList_step fun N hN=>?_
 rw[if_neg (by simp only[Region.wanted,hg,zm5 hs hj ht];cases b <;>decide)]
 exact hN _ _ (r β S _ w Q (hs.put hd zkl) hq)
def Less(s s':AS):Prop:= ∀ w0 nt β S a w,SR w0 nt β S s a w→ ∃ β' S',SR w0 nt β' S' s' a w
theorem zbd(h:Less s s')(r:WL P w0 nt ops l s' K):WL P w0 nt ops l s K:=by
 intro β S a w Q hs hq
 obtain⟨β',S',hs'⟩:=h _ _ _ _ _ _ hs
 exact r β' S' a w Q hs' hq
theorem zab{c:Code}(h:Less s s')(r:AC P w0 nt c s' C):AC P w0 nt c s C:=by
 intro β S a w Q hs hq
 obtain⟨β',S',hs'⟩:=h _ _ _ _ _ _ hs
 exact r β' S' a w Q hs' hq
theorem za{id:Nat}(h:WL P w0 nt ops ops.toList s (C .normal)):AC P w0 nt (.region id ops false) s C:=by
 intro β S a w Q hs hq
 exact wp_region_list (h β S a w Q hs (hq .normal))
def sq(N:AS→Prop)(C:Exit→AS→Prop):Exit→AS→Prop
 | .normal=>N
 |e=>C e
def bk(id:Nat)(C:Exit→AS→Prop):Exit→AS→Prop
 | .exit id'=>match Nat.beq id' id with
   |true=>C .normal
   |false=>C (.exit id')
 |e=>C e
theorem zi{x y:Code}(h:AC P w0 nt x s (sq (fun s'=>AC P w0 nt y s' C) C)):AC P w0 nt (.seq x y) s C:=by
 intro β S a w Q hs hq
 refine wp_seq (h β S a w _ hs fun e β' S' a' w' s' hk hs'=>?_)
 cases e with
 |normal=>exact hk β' S' a' w' Q hs' hq
 |_=>exact hq _ _ _ _ _ _ hk hs'
theorem zxg(h:C .normal s):AC P w0 nt .skip s C:=fun _ _ _ _ _ hs hq=>wp_skip (hq _ _ _ _ _ _ h hs)
theorem zg(h:C .ret s):AC P w0 nt .ret s C:=fun _ _ _ _ _ hs hq=>wp_ret (hq _ _ _ _ _ _ h hs)
theorem zl{id:Nat}(h:C (.exit id) s):AC P w0 nt (.exit id) s C:=fun _ _ _ _ _ hs hq=>wp_exit (hq _ _ _ _ _ _ h hs)
theorem zDp{c:Operand}{x y:Code}{b:Bool}(hc:evO s c=some (.bool b))(h1:b=true→AC P w0 nt x s C)(h2:b=false→AC P w0 nt y s C):AC P w0 nt (.cond c x y) s C:=by
 intro β S a w Q hs hq
 have hv:=zah hs hc
 generalize e:a.eval c=cv at hv
 cases hv
 exact wp_cond_split e (fun q=>h1 q β S a w Q hs hq) (fun q=>h2 q β S a w Q hs hq)
theorem zf{id:Nat}{c:Code}(h:AC P w0 nt c s (bk id C)):AC P w0 nt (.block id c) s C:=by
 intro β S a w Q hs hq
 refine wp_block (h β S a w _ hs fun e β' S' a' w' s' hk hs'=>?_)
 cases e with
 |exit id'=>
  simp only[Exit.inBlock]
  cases e:Nat.beq id' id with
  |true=>
   have hk:C .normal s':=by have:=hk;simp only[bk,e]at this;exact this
   rw[if_pos (Nat.eq_of_beq_eq_true e)];exact hq _ _ _ _ _ _ hk hs'
  |false=>
   have hk:C (.exit id') s':=by have:=hk;simp only[bk,e]at this;exact this
   have: ¬id'=id:=fun q=>by rw[q,Nat.beq_refl]at e;cases e
   rw[if_neg this];exact hq _ _ _ _ _ _ hk hs'
 |_=>exact hq _ _ _ _ _ _ hk hs'
theorem zqC{ι:Type}{c:Code}(mk:ι→AS)(I:ι→Prop)(μ:ι→Nat)(i0:ι)(h0:Less s (mk i0))(hI:I i0)
 (h: ∀ i,I i→AC P w0 nt c (mk i) (sq (fun s'=> ∃ j,I j∧μ j <μ i∧Less s' (mk j)) C)):AC P w0 nt (.loop c) s C:=by
 intro β S a w Q hs hq b k cs
 have key: ∀ n i,μ i=n→I i→ ∀ β S a w,SR w0 nt β S (mk i) a w→ ∃ e a' w',Q e a' w'∧Arrives P (lone (b.at a (.code c::.inLoop c::k)) cs w) b k cs e a' w':=by
  intro n
  induction n using Nat.strongRecOn with
  |_ n ih=>
   intro i hn hi β S a w hs
   obtain⟨e,a₁,w₁,hk,harr⟩:=h i hi β S a w (fun e a' w'=>match e with| .normal=> ∃ j,I j∧μ j <μ i∧ ∃ β' S',SR w0 nt β' S' (mk j) a' w'|e=>Q e a' w') hs (fun e β' S' a' w' s' hk hs'=>by
    cases e with
    |normal=>
     obtain⟨j,q1,q2,q3⟩:=hk
     obtain⟨β2,S2,q4⟩:=q3 _ _ _ _ _ _ hs'
     exact⟨j,q1,q2,β2,S2,q4⟩
    |_=>exact hq _ _ _ _ _ _ hk hs') b (.inLoop c::k) cs
   cases e with
   |normal=>
    obtain⟨j,q1,q2,β2,S2,q3⟩:=hk
    obtain⟨e₂,a₂,w₂,hq₂,harr₂⟩:=ih (μ j) (hn▸q2) j rfl q1 β2 S2 a₁ w₁ q3
    exact⟨e₂,a₂,w₂,hq₂,.of_steps (Steps.trans harr (.one step_inLoop)) harr₂⟩
   |exit id=>exact⟨_,a₁,w₁,hk,.pass (x:=.inLoop c) rfl (fun _ _=>.inl (by simp)) harr⟩
   |goto l=>exact⟨_,a₁,w₁,hk,.pass (x:=.inLoop c) rfl (fun _ _=>.inl (by simp)) harr⟩
   |ret=>exact⟨_,a₁,w₁,hk,.pass (x:=.inLoop c) rfl (fun _ _=>.inl (by simp)) harr⟩
   |panic ch=>exact⟨_,a₁,w₁,hk,.pass (x:=.inLoop c) rfl (fun _ _=>.inl (by simp)) harr⟩
   |outgrown=>exact⟨_,a₁,w₁,hk,.pass (x:=.inLoop c) rfl (fun _ _=>.inl (by simp)) harr⟩
 obtain⟨β2,S2,hs2⟩:=h0 _ _ _ _ _ _ hs
 obtain⟨e,a',w',hq',harr⟩:=key _ i0 rfl hI β2 S2 a w hs2
 exact⟨e,a',w',hq',.of_steps (.one step_loop) harr⟩
def zpR(ty:Ty)(s:AS):ResultVar→Option AV
 | .tmp t=>s.env t
 | .cell a t=>match s.env a,ty t with
   |some p,some i=>match i.desc.isAgg,behind s.blk i.size p with
    |true,some cs=>match Nat.beq cs.length i.size with
     |true=>match zcM cs with
      |some cs'=>some (.agg cs')
      |none=>none
     |false=>none
    |false,some [v]=>some v
    |_,_=>none
   |_,_=>none
def resL(ty:Ty)(s:AS):List ResultVar→Option (List AV)
 |[]=>some []
 |r::l=>match zpR ty s r,resL ty s l with
  |some v,some vs=>some (v::vs)
  |_,_=>none
def resF(tmps:Array Value):ResultVar→Sem Value
 | .tmp t=>pure (tmps.getD t undef)
 | .cell a t=>do loadVar t (←asAddr (tmps.getD a undef))
theorem zeT(fn:Func)(tmps:Array Value):results fn tmps=(do let vs ←fn.results.mapM (resF tmps);pure (if h:vs.size=1 then vs[0]else .tuple vs)):=by
 unfold results
 congr 2
theorem zrP(hty:TyOK P ty){β:Bt}{S:St}{a:Act}{w:World}(hs:SR w0 nt β S s a w){r:ResultVar}{v:AV}(h:zpR ty s r=some v):
 ∃ u,(resF a.tmps r).run P w=.ok u w∧VR β S w u v:=by
 cases r with
 |tmp t=>exact⟨_,rfl,hs.henv t v h⟩
 |cell ad t=>
  simp only[zpR]at h
  split at h
  ·rename_i p i e1 e2
   have hp:=hs.henv ad p e1
   obtain⟨ci,_,_,hI⟩:=hty.get e2
   split at h
   ·rename_i cs hag hb
    split at h
    ·rename_i hl
     have hl:=Nat.eq_of_beq_eq_true hl
     split at h
     ·rename_i cs' hfc
      obtain rfl:=Option.some.inj h
      obtain rfl:=zcS hfc
      obtain⟨b,o,hv,hc⟩:=zfR hs hp hb
      have hagg:=zfZ (w:=w) hI
      rw[hag]at hagg
      have hf: ∃ f:Nat→Value,∀ j,j <cs.length→w.cell? ⟨b,o+j,none⟩=some (f j)∧(f j).oneCell'=true∧VR β S w (f j) (cs.getD j .any):=
       ⟨fun j=>if h:j <cs.length then(hc j h).choose else undef,fun j hj=>by simp only[hj,dif_pos];exact(hc j hj).choose_spec⟩
      obtain⟨f,hf⟩:=hf
      have hld:=run_loadCells (P:=P) w ⟨b,o,none⟩ ci.size f (fun j hj=>by rw[zfu];exact(hf j (by rw[hl, ←hI.size];exact hj)).1)
      refine⟨.agg ((List.range ci.size).map f).toArray,?_,?_⟩
      ·simp[resF,hv,asAddr,loadVar,hagg,sizeOf,typeInfo,hI.info,hld]
      ·refine .agg _ _ (by simp[hl,hI.size]) (fun j hj=>?_) (fun j hj=>?_)
       ·have e1:(((List.range ci.size).map f).toArray).getD j undef=f j:=by simp[Array.getD,hI.size, ←hl,hj]
        rw[e1];exact(hf j hj).2.2
       ·have:=(hf j hj).2.1
        simp[Array.getD,hI.size, ←hl,hj,this]
     ·cases h
    ·cases h
   ·rename_i v' hag hb
    obtain rfl:=Option.some.inj h
    obtain⟨b,o,hv,hc⟩:=zfR hs hp hb
    obtain⟨c,h1,_,h3⟩:=hc 0 (by simp)
    have hagg:=zfZ (w:=w) hI
    rw[hag]at hagg
    rw[Nat.add_zero]at h1
    exact⟨c,by simp[resF,hv,asAddr,loadVar,hagg,h1],h3⟩
   ·cases h
  ·cases h
theorem zhn(hty:TyOK P ty){β:Bt}{S:St}{a:Act}{w:World}(hs:SR w0 nt β S s a w): ∀ {rs:List ResultVar} {vs:List AV},resL ty s rs=some vs→
 ∃ us:List Value,(rs.mapM (resF a.tmps)).run P w=.ok us w∧us.length=vs.length∧
   ∀ j,j <vs.length→VR β S w (us.getD j undef) (vs.getD j .any)
 |[],vs,h=>by obtain rfl:=Option.some.inj h;exact⟨[],rfl,rfl,fun j hj=>by simp at hj⟩
 |r::l,vs,h=>by
  simp only[resL]at h
  split at h
  ·rename_i v vs' e1 e2
   obtain rfl:=Option.some.inj h
   obtain⟨u,h1,h2⟩:=zrP hty hs e1
   obtain⟨us,h3,h4,h5⟩:=zhn hty hs e2
   refine⟨u::us,?_,by simp[h4],fun j hj=>?_⟩
   ·rw[List.mapM_cons]
    simp only[Sem.run_bind,h1,Result.andThen_ok,h3,Sem.run_pure]
   ·cases j with
    |zero=>simpa using h2
    |succ j=>simpa using h5 j (by simpa using hj)
  ·cases h
def zgk(blk:Bk):AV→Option AV
 | .arr id=>match blk id with
   |some (.ar none e es rows wr)=>some (.own e es rows wr)
   |some (.ro _ es rows)=>some (.lst es rows false)
   |_=>none
 |x=>match argV blk x with
  |some y=>match za3 y with
   |true=>none
   |false=>some y
  |none=>none
def zn8(blk:Bk):List AV→Option (List AV)
 |[]=>some []
 |x::l=>match zgk blk x,zn8 blk l with
  |some y,some r=>some (y::r)
  |_,_=>none
def arrId:AV→Option Nat
 | .arr id=>some id
 |_=>none
def zfM:List AV→Bool
 |[]=>true
 |x::l=>(match arrId x with|some i=>l.all (fun y=>match arrId y with|some j=> !(Nat.beq i j)|none=>true)|none=>true)&&zfM l
def zqU(blk:Bk):List AV→Option AV
 |[x]=>zgk blk x
 |l=>match zn8 blk l,zfM l with
  |some ys,true=>some (.tup ys)
  |_,_=>none
end
end Go.Aw
namespace Go.Aw
open Go.RowKit
def zld(β:Bt):AV→Nat
 | .arr id=>match β id with
   |some bi=>bi.b
   |none=>0
 |_=>0
theorem zoc{w0:B0}{w:World}{β:Bt}{S:St}{blk:Bk}(hw0: ∀ b,¬w0.old b→w0.w.heap.size≤b)(h:HR w0 β S blk w){v:Value}{x y:AV}(hv:VR β S w v x)(hp:zgk blk x=some y):RV1 S w0.w w v (zld β x) y:=by
 by_cases e: ∃ id,x=.arr id
 ·obtain⟨id,rfl⟩:=e
  simp only[zgk]at hp
  split at hp
  ·rename_i e es rows wr hk
   obtain rfl:=Option.some.inj hp
   cases hv
   rename_i bi hbi
   obtain⟨bi2,e1,h2,h3⟩:=h.hblk id _ hk
   rw[hbi]at e1
   obtain rfl:=Option.some.inj e1
   refine⟨bi,?_,rfl,hw0 _ (h3 rfl),h2⟩
   simp[zld,hbi]
  ·rename_i hk
   obtain rfl:=Option.some.inj hp
   exact zbp rfl (zmx (pin:=none) h (.inr hk) hv)
  ·cases hp
 ·have hp': ∃ z,argV blk x=some z∧za3 z=false∧z=y:=by
   cases x <;>simp only[zgk]at hp <;>first
    |exact absurd ⟨_,rfl⟩ e
    |(split at hp
      ·rename_i z hz
       split at hp
       ·cases hp
       ·exact⟨z,hz,by assumption,Option.some.inj hp⟩
      ·cases hp)
  obtain⟨z,h1,h2,rfl⟩:=hp'
  have:=zcb h hv h1
  cases z <;>first|exact this|simp[za3]at h2
theorem zlq{blk:Bk}{x y:AV}(hp:zgk blk x=some y)(ho:za3 y=true): ∃ id e es rows wr,x=.arr id∧blk id=some (.arr e es rows wr):=by
 by_cases e: ∃ id,x=.arr id
 ·obtain⟨id,rfl⟩:=e
  simp only[zgk]at hp
  split at hp
  ·exact⟨_,_,_,_,_,rfl,by assumption⟩
  ·obtain rfl:=Option.some.inj hp;simp[za3]at ho
  ·cases hp
 ·exfalso
  cases x <;>simp only[zgk]at hp <;>first
   |exact absurd ⟨_,rfl⟩ e
   |(split at hp
     ·split at hp
      ·cases hp
      ·rename_i hz _ hi;obtain rfl:=Option.some.inj hp;rw[hi]at ho;cases ho
     ·cases hp)
theorem zoq{blk:Bk}: ∀ {xs ys:List AV},zn8 blk xs=some ys→ys.length=xs.length∧ ∀ j,j <xs.length→zgk blk (xs.getD j .any)=some (ys.getD j .any)
 |[],ys,h=>by obtain rfl:=Option.some.inj h;exact⟨rfl,fun j hj=>by simp at hj⟩
 |x::l,ys,h=>by
  simp only[zn8]at h
  split at h
  ·rename_i y r e1 e2
   obtain rfl:=Option.some.inj h
   obtain⟨h1,h2⟩:=zoq e2
   refine⟨by simp[h1],fun j hj=>?_⟩
   cases j with
   |zero=>simpa using e1
   |succ j=>simpa using h2 j (by simpa using hj)
  ·cases h
theorem zn4: ∀ {xs:List AV},zfM xs=true→ ∀ i j a b,i <j→j <xs.length→xs.getD i .any=.arr a→xs.getD j .any=.arr b→a≠b
 |[],_,i,j,a,b,_,hj,_,_=>by simp at hj
 |x::l,h,i,j,a,b,hij,hj,hi,hjv=>by
  simp only[zfM,Bool.and_eq_true]at h
  cases j with
  |zero=>omega
  |succ j=>
   have hj':j <l.length:=by simpa using hj
   have hjv':l.getD j .any=.arr b:=by simpa using hjv
   cases i with
   |zero=>
    have:x=.arr a:=by simpa using hi
    subst this
    have h1:=h.1
    simp only[arrId]at h1
    have:=za7 (p:=fun y=>match arrId y with|some j=> !(Nat.beq a j)|none=>true) h1 hj'
    rw[hjv']at this
    simp only[arrId]at this
    intro e
    subst e
    simp at this
   |succ i=>exact zn4 h.2 i j a b (by omega) hj' (by simpa using hi) hjv'
theorem zhN{β:Bt}{S:St}{w:World}{v:Value}{x:AV}(h:VR β S w v x):za3 x=false:=by cases h <;>rfl
theorem zs9{S:St}{w w':World}{v:Value}{b:Nat}{x:AV}(h:VR nb S w' v x):RV1 S w w' v b x:=by
 have:=zhN h
 cases x <;>first|exact h|simp[za3]at this
theorem zmU{w0:B0}{w:World}{β:Bt}{S:St}{blk:Bk}(hw0: ∀ b,¬w0.old b→w0.w.heap.size≤b)(h:HR w0 β S blk w){vs:List AV}{us:List Value}{res:AV}(hl:us.length=vs.length)(hv: ∀ j,j <vs.length→VR β S w (us.getD j undef) (vs.getD j .any))
 (hp:zqU blk vs=some res):RV S w0.w w (if h:us.toArray.size=1 then us.toArray[0]else .tuple us.toArray) res:=by
 have multi:(∀ x,vs≠[x])→RV S w0.w w (.tuple us.toArray) res:=by
  intro hne
  have hp': ∃ ys,zn8 blk vs=some ys∧zfM vs=true∧res=.tup ys:=by
   match vs,hp,hne with
   |[],hp,_=>exact⟨[],rfl,rfl,(Option.some.inj hp).symm⟩
   |[x],_,hne=>exact absurd rfl (hne x)
   |x::y::l,hp,_=>
    simp only[zqU]at hp
    split at hp
    ·exact⟨_,by assumption,by assumption,(Option.some.inj hp).symm⟩
    ·cases hp
  obtain⟨ys,h1,h2,rfl⟩:=hp'
  obtain⟨h3,h4⟩:=zoq h1
  refine⟨us.toArray,fun j=>zld β (vs.getD j .any),rfl,by simp[hl,h3],fun j hj=>?_,fun i j hij hj oi oj=>?_⟩
  ·have:=zoc hw0 h (hv j (by omega)) (h4 j (by omega))
   rw[←zag,List.toList_toArray];exact this
  ·obtain⟨a,e1,es1,r1,w1,ha,hka⟩:=zlq (h4 i (by omega)) oi
   obtain⟨b,e2,es2,r2,w2,hb,hkb⟩:=zlq (h4 j (by omega)) oj
   have hab:=zn4 h2 i j a b hij (by omega) ha hb
   obtain⟨ba,p1,_,_⟩:=h.hblk a _ hka
   obtain⟨bb,p2,_,_⟩:=h.hblk b _ hkb
   have:=h.hinj a b ba bb _ _ hab hka rfl hkb rfl p1 p2
   show zld β (vs.getD i .any)≠zld β (vs.getD j .any)
   rw[ha,hb]
   simp only[zld,p1,p2]
   exact this
 by_cases hone: ∃ x,vs=[x]
 ·obtain⟨x,rfl⟩:=hone
  match us,hl with
  |[u],_=>
   have hu:VR β S w u x:=by simpa using hv 0 (by simp)
   have:=zoc hw0 h hu (show zgk blk x=some res from hp)
   have e:RV S w0.w w u res:=by
    cases res with
    |tup xs=>
     cases this with
     |tup cs _ h1 h3=>
      refine⟨cs,fun _=>0,rfl,h1,fun j hj=>zs9 (h3 j hj),fun i j hij hj oi _=>?_⟩
      have hj:j <xs.length:=hj
      have hij:i <j:=hij
      exact absurd (zhN (h3 i (Nat.lt_trans hij hj))) (by rw[oi];decide)
    |_=>exact⟨_,this⟩
   simpa using e
 ·have hne: ¬us.toArray.size=1:=by
   intro e
   have hlen:vs.length=1:=by rw[←hl];simpa using e
   obtain⟨x,hx⟩:=List.length_eq_one_iff.1 hlen
   exact hone ⟨x,hx⟩
  rw[dif_neg hne]
  exact multi (fun x e=>hone ⟨x,e⟩)
section
variable {P:Program} {ty:Ty}
end
end Go.Aw
namespace Go.Aw
open Go.RowKit
section
variable {P:Program} {ty:Ty} {w0:B0} {nt:Nat} {s s' t':AS} {ops:Array Oper} {l:List Oper} {o:Oper} {K:AS→Prop} {C:Exit→AS→Prop} {d:Option Nat} {t:TypeId} {pos:String} {af:Array Edge} {g:Option (Nat×Bool)}
def AS.le(s t:AS):Prop:=(∀ u x,s.env u=some x→t.env u=some x)∧(∀ i k,s.blk i=some k→t.blk i=some k)
theorem AS.le_refl(s:AS):s.le s:=⟨fun _ _ h=>h,fun _ _ h=>h⟩
def setBs(b:Bk):List (Nat×AB)→Bk
 |[]=>b
 |(i,k)::l=>setBs (upd b i k) l
def AS.eff(s:AS)(d:Option Nat)(v:AV)(bs:List (Nat×AB)):AS:=(⟨s.env,setBs s.blk bs⟩:AS).put d v
def MStep(P:Program)(w0:B0)(nt:Nat)(o:Oper)(s:AS)(v:AV)(bs:List (Nat×AB)):Prop:=
 ∀ t,s.le t→(∀ p∈bs,s.blk p.1=none→t.blk p.1=none)→OkOp P w0 nt o t (t.eff o.dst v bs)
theorem MStep.ok{v:AV}{bs:List (Nat×AB)}(h:MStep P w0 nt o s v bs):OkOp P w0 nt o s (s.eff o.dst v bs):=h s s.le_refl (fun _ _ q=>q)
theorem WL_m{v:AV}{bs:List (Nat×AB)}(hg:o.guard=none)(h:MStep P w0 nt o s v bs)(r:WL P w0 nt ops l (s.eff o.dst v bs) K):WL P w0 nt ops (o::l) s K:=ziK hg h.ok r
theorem zV(h:s.le t'){x:Operand}{v:AV}(hx:evO s x=some v):evO t' x=some v:=by
 cases x with
 |tmp u=>exact h.1 u v hx
 |_=>exact hx
theorem zfz(h:s.le t'){p:AV}{n:Nat}{cs:List AV}(hb:behind s.blk n p=some cs):behind t'.blk n p=some cs:=by
 cases p <;>simp only[behind]at hb⊢ <;>try exact hb
 ·split at hb
  ·rename_i cells hk;rw[h.2 _ _ hk];exact hb
  ·rename_i cells hk;rw[h.2 _ _ hk];exact hb
  ·cases hb
 ·split at hb
  ·rename_i hk;rw[h.2 _ _ hk];exact hb
  ·rename_i hk;rw[h.2 _ _ hk];exact hb
  ·cases hb
theorem zkS(h:s.le t'){p:AV}{n:Nat}(hb:zjO s.blk p=some n):zjO t'.blk p=some n:=by
 cases p <;>simp only[zjO]at hb⊢ <;>try exact hb
 split at hb
 ·rename_i hk;rw[h.2 _ _ hk];exact hb
 ·rename_i hk;rw[h.2 _ _ hk];exact hb
 ·cases hb
theorem zcJ(h:s.le t'){p:AV}{r:Nat×List (List AV)}(hb:zaP s.blk p=some r):zaP t'.blk p=some r:=by
 cases p <;>simp only[zaP]at hb⊢ <;>try exact hb
 split at hb
 ·rename_i hk;rw[h.2 _ _ hk];exact hb
 ·rename_i hk;rw[h.2 _ _ hk];exact hb
 ·cases hb
theorem zk3(h:s.le t'){p q:AV}(hb:argS s.blk p=some q):argS t'.blk p=some q:=by
 cases p <;>simp only[argS]at hb⊢ <;>try exact hb
 ·split at hb
  ·rename_i hk;rw[h.2 _ _ hk];exact hb
  ·cases hb
 ·split at hb
  ·rename_i hk;rw[h.2 _ _ hk];exact hb
  ·rename_i hk;rw[h.2 _ _ hk];exact hb
  ·cases hb
theorem zeH(h:s.le t'): ∀ {p q:List AV},argSs s.blk p=some q→argSs t'.blk p=some q
 |[],q,hb=>hb
 |x::l,q,hb=>by
  simp only[argSs]at hb⊢
  split at hb
  ·rename_i y r e1 e2
   rw[zk3 h e1,zeH h e2];exact hb
  ·cases hb
theorem zeC(h:s.le t'){p q:AV}(hb:argV s.blk p=some q):argV t'.blk p=some q:=by
 by_cases e: ∃ cs,p=.agg cs
 ·obtain⟨cs,rfl⟩:=e
  simp only[argV]at hb⊢
  split at hb
  ·rename_i cs' e1;rw[zeH h e1];exact hb
  ·cases hb
 ·have e1: ∀ b,argV b p=argS b p:=fun b=>by cases p <;>first|rfl|exact absurd ⟨_,rfl⟩ e
  rw[e1]at hb⊢;exact zk3 h hb
theorem zcD(h:s.le t'): ∀ {l:List Operand} {xs:List AV},za4 s l=some xs→za4 t' l=some xs
 |[],xs,hb=>hb
 |x::l,xs,hb=>by
  simp only[za4]at hb⊢
  split at hb
  ·rename_i v hv
   rw[zV h hv]
   simp only
   split at hb
   ·rename_i y r e1 e2
    rw[zeC h e1,zcD h e2];exact hb
   ·cases hb
  ·cases hb
theorem zeZ(h:s.le t'): ∀ {l:List (Nat×Operand)} {xs:List (Nat×AV)},zcN s l=some xs→zcN t' l=some xs
 |[],xs,hb=>hb
 |(i,x)::l,xs,hb=>by
  simp only[zcN]at hb⊢
  split at hb
  ·rename_i v r e1 e2
   rw[zV h e1,zeZ h e2];exact hb
  ·cases hb
def zms(blk:Bk)(d:Nat)(f:Nat→Option (AV×List (Nat×AB))):Option (AV×List (Nat×AB)):=match blk d with
 |none=>f d
 |some _=>match blk (d+10000)with
  |none=>f (d+10000)
  |some _=>match blk (d+20000)with
   |none=>f (d+20000)
   |some _=>none
theorem zlx{blk:Bk}{d:Nat}{f:Nat→Option (AV×List (Nat×AB))}{e:AV×List (Nat×AB)}(h:zms blk d f=some e): ∃ id,blk id=none∧f id=some e:=by
 unfold zms at h
 split at h
 ·exact⟨_,by assumption,h⟩
 ·split at h
  ·exact⟨_,by assumption,h⟩
  ·split at h
   ·exact⟨_,by assumption,h⟩
   ·cases h
def kEq:IntKind→IntKind→Bool
 | .i64,.i64=>true
 | .u8,.u8=>true
 | .u64,.u64=>true
 | .i32,.i32=>true
 | .u32,.u32=>true
 |_,_=>false
theorem zuY{a b:IntKind}(h:kEq a b=true):a=b:=by cases a <;>cases b <;>first|rfl|cases h
def zut(op:BinOp)(k:IntKind)(a b:Int):Option AV:=match op with
 | .add=>some (.int k (k.wrap (a+b)))
 | .sub=>some (.int k (k.wrap (a-b)))
 | .mul=>some (.int k (k.wrap (a*b)))
 |_=>none
theorem zq6{op:BinOp}{k:IntKind}{a b:Int}{v:AV}(h:zut op k a b=some v):binI op k a b=some v:=by cases op <;>first|exact h|cases h
theorem ztP(hty:TyOK P ty){u e n:Nat}{ui ei:TI}{parts:Array (Nat×Operand)}{xs:List (Nat×AV)}{rows:List (List AV)}(hui:ty u=some ui)(hd1:ui.desc=.slice e)(hei:ty e=some ei)
 (hp:zcN s parts.toList=some xs) (hb:rowsA n ei.size 0 xs=some rows) (hsm:Nat.ble (n*ei.size) 1000=true) (hd:zt nt d=true):
 OkOp P w0 nt ⟨d,.buildSlice u n parts,t,pos,af,g⟩ s (s.put d (.lst ei.size rows true)):=by
 intro β S a w next Q hs hn
 obtain⟨cs',hr,r2,hrn,r4⟩:=zuT (d:=d) (t:=t) (pos:=pos) (af:=af) (g:=g) hty hs hui hd1 hei hp hb hsm
 unfold Oper.wp
 rw[hr]
 have hB:=zbM w (.cells cs' e)
 have hS: ∀ b o,S b o→b <w.heap.size:=hs.hh.hlt
 obtain⟨h1,h2⟩:=hs.hh.extS (S':=fun b o=>S b o∨b=w.heap.size) hB (fun b o q=>.inl q) (fun b o q hl=>q.resolve_right (fun e=>by omega))
  (fun b o q=>by
    rcases q with q|q
    ·exact Nat.lt_of_lt_of_le (hS b o q) hB.size
    ·rw[q];simp)
 have hs2:SR w0 nt β (fun b o=>S b o∨b=w.heap.size) s a (w.alloc (.cells cs' e)):=⟨h1,fun v x q=>h2 (hs.henv v x q),hs.hsize,hs.hdefers⟩
 refine hn _ _ _ _ (hs2.put hd ?_)
 have hcell: ∀ i j,i <n→j <ei.size→(w.alloc (.cells cs' e)).cell? ⟨w.heap.size,0+i*ei.size+j,none⟩=some (cs'.getD (i*ei.size+j) undef):=by
  intro i j hi hj
  have hlt:i*ei.size+j <cs'.size:=by
   rw[r2]
   have:(i+1)*ei.size≤n*ei.size:=Nat.mul_le_mul_right _ (by omega)
   rw[Nat.add_mul]at this
   omega
  rw[Nat.zero_add]
  unfold World.cell?
  simp only
  rw[heap_alloc_new w (.cells cs' e)]
  simp[Array.getD,hlt]
 refine .lst w.heap.size 0 n n ei.size rows true (fun i j=>cs'.getD (i*ei.size+j) undef) hrn (Nat.le_refl _) (fun _=>rfl) (fun i hi=>(r4 i (by omega)).1) (fun i j hi hj=>⟨.inr rfl,hcell i j hi hj,?_⟩) (fun i j hi hj=>?_)
 ·have:=r4 i (by omega)
  exact(this.2 j (by omega)).2
 ·have:=r4 i (by omega)
  exact(this.2 j (by omega)).1.mono (fun _ _ q=>by cases q) (fun b o q=>⟨.inl q,zch hB (hS b o q)⟩)
abbrev Ef:=AV×List (Nat×AB)
def zvg(s:AS)(c x y:Operand):Option Ef:=
 (evO s c).bind fun v=>match v with
   | .bool true=>(evO s x).bind fun v=>some (v,[])
   | .bool false=>(evO s y).bind fun v=>some (v,[])
   |_=>none
def zuA(ty:Ty)(s:AS)(st:Nat)(x:Operand)(f:Nat):Option Ef:=
 (ty st).bind fun si=>match si.desc with
   | .struct fs=>(fs[f]?).bind fun q=>(ty q.2).bind fun fi=>match Nat.blt 0 fi.size with
     |true=>(evO s x).bind fun p=>(mvP q.1 p).bind fun q=>some (q,[])
     |false=>none
   |_=>none
def zvr(ty:Ty)(s:AS)(u:Nat)(x:Operand):Option Ef:=
 (ty u).bind fun i=>(evO s x).bind fun p=>match i.desc.isAgg with
   |false=>(behind s.blk 1 p).bind fun cs=>match cs with
    |[v]=>some (v,[])
    |_=>none
   |true=>(behind s.blk i.size p).bind fun cs=>match Nat.beq cs.length i.size with
    |true=>(zcM cs).bind fun cs'=>some (.agg cs',[])
    |false=>none
def zu0(ty:Ty)(s:AS)(d:Nat)(u:Nat):Option Ef:=
 (ty u).bind fun i=>zms s.blk d fun id=>some (.ptr id 0,[(id,.box i.zero)])
def zvP(s:AS)(d:Nat)(x:Operand):Option Ef:=
 (evO s x).bind fun v=>(zds v).bind fun cs=>zms s.blk d fun id=>some (.ptr id 0,[(id,.box cs)])
def zuG(ty:Ty)(s:AS)(u:Nat)(x y:Operand):Option Ef:=
 (ty u).bind fun i=>(evO s x).bind fun p=>match p with
   | .ptr id off=>(evO s y).bind fun v=>(s.blk id).bind fun k=>match k with
     | .bx pin cells=>(zds v).bind fun vs=>match Nat.beq vs.length i.size with
       |true=>match Nat.ble (off+vs.length) cells.length with
        |true=>(zcM (setAt cells off vs)).bind fun cells'=>some (.any,[(id,.bx pin cells')])
        |false=>none
       |false=>none
     |_=>none
   |_=>none
def zvy(s:AS)(x:Operand):Option Ef:=
 (evO s x).bind fun v=>match v with
   | .bool b=>some (.bool (!b),[])
   |_=>none
def zvC(s:AS)(op:BinOp)(x y:Operand):Option Ef:=
 (evO s x).bind fun v=>match v with
   | .int k a=>(evO s y).bind fun v=>match v with
     | .int k' b=>match kEq k k' with
       |true=>(zut op k a b).bind fun v=>some (v,[])
       |false=>none
     |_=>none
   |_=>none
def zst(s:AS)(x:Operand)(i:Nat):Option Ef:=
 (evO s x).bind fun v=>match v with
   | .tup vs=>(vs[i]?).bind fun v=>some (v,[])
   |_=>none
def zvQ(s:AS)(x:Operand):Option Ef:=
 (evO s x).bind fun p=>(mvP 0 p).bind fun _=>some (p,[])
def zu6(ty:Ty)(s:AS)(u:Nat)(parts:Array (Nat×Operand)):Option Ef:=
 (ty u).bind fun i=>(zcN s parts.toList).bind fun xs=>match i.desc with
   | .struct _=>(bldA (fun k=>i.pl[k]?) i.zero xs).bind fun cells=>some (.agg cells,[])
   |_=>none
def zvH(ty:Ty)(s:AS)(_d:Nat)(u n:Nat)(parts:Array (Nat×Operand)):Option Ef:=
 (ty u).bind fun ui=>match ui.desc with
   | .slice e=>(ty e).bind fun ei=>(zcN s parts.toList).bind fun xs=>(rowsA n ei.size 0 xs).bind fun rows=>match Nat.ble (n*ei.size) 1000 with
     |true=>match Nat.blt 0 ei.size with
      |true=>some (.lst ei.size rows true,[])
      |false=>none
     |false=>none
   |_=>none
def zvM(ty:Ty)(s:AS)(u:Nat)(x:Operand):Option Ef:=
 (ty u).bind fun ui=>match ui.desc with
   | .slice _=>(evO s x).bind fun p=>match(match p with| .str _=>false|_=>true)with
     |true=>(zjO s.blk p).bind fun n=>some (.int .i64 n,[])
     |false=>none
   |_=>none
def ztl(ty:Ty)(s:AS)(c:Call):Option Ef:=match c.callee,c.args.toList,c.argTypes.toList with
 | .builtin .len,[x],[u]=>zvM ty s u x
 |_,_,_=>none
def zsU(ty:Ty)(s:AS)(o:Oper):Option Ef:=match o.op,o.dst with
 | .move x,_=>(evO s x).bind fun v=>some (v,[])
 | .assign x,_=>(evO s x).bind fun v=>some (v,[])
 | .pick c x y,_=>zvg s c x y
 | .fieldAddr st x f,_=>zuA ty s st x f
 | .load u x,_=>zvr ty s u x
 | .alloc u,some d=>zu0 ty s d u
 | .box _ x,some d=>zvP s d x
 | .store u x y,none=>zuG ty s u x y
 | .unOp .not _ x,_=>zvy s x
 | .binOp op _ x y _,_=>zvC s op x y
 | .extract x i,_=>zst s x i
 | .nilCheck x,_=>zvQ s x
 | .build u parts,_=>zu6 ty s u parts
 | .buildSlice u n parts,some d=>zvH ty s d u n parts
 | .call c,_=>ztl ty s c
 |_,_=>none
theorem ztm{c:Call}{e:Ef}(hty:TyOK P ty)(hd:zt nt d=true)(h:ztl ty s c=some e):MStep P w0 nt ⟨d,.call c,t,pos,af,g⟩ s e.1 e.2:=by
 obtain⟨callee,args,argTypes⟩:=c
 unfold ztl at h
 intro t2 hle hfr
 split at h
 ·rename_i x u hc hx hu
  subst hc
  obtain⟨ui,h1,h2⟩:=Option.bind_eq_some_iff.1 h
  split at h2
  ·rename_i e hds
   obtain⟨p,h3,h4⟩:=Option.bind_eq_some_iff.1 h2
   split at h4
   ·rename_i hp
    obtain⟨n,h5,h6⟩:=Option.bind_eq_some_iff.1 h4
    obtain rfl:=Option.some.inj h6
    obtain⟨_,_,_,hU⟩:=hty.get h1
    obtain rfl:args= #[x]:=by cases args;simp_all
    obtain rfl:argTypes= #[u]:=by cases argTypes;simp_all
    refine zu2 (hU.slice hds) (zV hle h3) (zkS hle h5) ?_ hd
    cases p <;>first|rfl|exact hp
   ·cases h4
  ·cases h2
 ·cases h
theorem zI{e:Ef}(hty:TyOK P ty)(hd:zt nt o.dst=true)(h:zsU ty s o=some e):MStep P w0 nt o s e.1 e.2:=by
 obtain⟨d,op,t,pos,af,g⟩:=o
 unfold zsU at h
 simp only at h hd
 intro t2 hle hfr
 split at h
 ·obtain⟨v,h1,h2⟩:=Option.bind_eq_some_iff.1 h
  obtain rfl:=Option.some.inj h2
  exact zug (zV hle h1) hd
 ·obtain⟨v,h1,h2⟩:=Option.bind_eq_some_iff.1 h
  obtain rfl:=Option.some.inj h2
  exact zrS (zV hle h1) hd
 ·obtain⟨v,h1,h2⟩:=Option.bind_eq_some_iff.1 h
  split at h2
  ·obtain⟨v,h3,h4⟩:=Option.bind_eq_some_iff.1 h2
   obtain rfl:=Option.some.inj h4
   exact zqk (zV hle h1) (by simpa using zV hle h3) hd
  ·obtain⟨v,h3,h4⟩:=Option.bind_eq_some_iff.1 h2
   obtain rfl:=Option.some.inj h4
   exact zqk (zV hle h1) (by simpa using zV hle h3) hd
  ·cases h2
 ·obtain⟨si,h1,h2⟩:=Option.bind_eq_some_iff.1 h
  split at h2
  ·rename_i fs hfs
   obtain⟨⟨off,ft⟩,h3,h4⟩:=Option.bind_eq_some_iff.1 h2
   obtain⟨fi,h5,h6⟩:=Option.bind_eq_some_iff.1 h4
   split at h6
   ·rename_i hn
    obtain⟨p,h7,h8⟩:=Option.bind_eq_some_iff.1 h6
    obtain⟨q,h9,h10⟩:=Option.bind_eq_some_iff.1 h8
    obtain rfl:=Option.some.inj h10
    exact zlK hty h1 hfs h3 h5 hn (zV hle h7) h9 hd
   ·cases h6
  ·cases h2
 ·obtain⟨i,h1,h2⟩:=Option.bind_eq_some_iff.1 h
  obtain⟨p,h3,h4⟩:=Option.bind_eq_some_iff.1 h2
  split at h4
  ·rename_i ha
   obtain⟨cs,h5,h6⟩:=Option.bind_eq_some_iff.1 h4
   split at h6
   ·obtain rfl:=Option.some.inj h6
    exact ztd hty h1 ha (zV hle h3) (zfz hle h5) hd
   ·cases h6
  ·rename_i ha
   obtain⟨cs,h5,h6⟩:=Option.bind_eq_some_iff.1 h4
   split at h6
   ·rename_i hl
    obtain⟨cs',h7,h8⟩:=Option.bind_eq_some_iff.1 h6
    obtain rfl:=Option.some.inj h8
    obtain rfl:=zcS h7
    exact zoj hty h1 ha (zV hle h3) (zfz hle h5) hl hd
   ·cases h6
 ·obtain⟨i,h1,h2⟩:=Option.bind_eq_some_iff.1 h
  obtain⟨id,hid,h2⟩:=zlx h2
  obtain rfl:=Option.some.inj h2
  exact zs1 hty _ h1 (hfr (_,_) (List.mem_singleton.2 rfl) hid) hd
 ·obtain⟨v,h1,h2⟩:=Option.bind_eq_some_iff.1 h
  obtain⟨cs,h3,h4⟩:=Option.bind_eq_some_iff.1 h2
  obtain⟨id,hid,h4⟩:=zlx h4
  obtain rfl:=Option.some.inj h4
  exact zuD _ (hfr (_,_) (List.mem_singleton.2 rfl) hid) (zV hle h1) h3 hd
 ·obtain⟨i,h1,h2⟩:=Option.bind_eq_some_iff.1 h
  obtain⟨p,h3,h4⟩:=Option.bind_eq_some_iff.1 h2
  split at h4
  ·obtain⟨v,h5,h6⟩:=Option.bind_eq_some_iff.1 h4
   obtain⟨k,h7,h8⟩:=Option.bind_eq_some_iff.1 h6
   split at h8
   ·obtain⟨vs,h9,h10⟩:=Option.bind_eq_some_iff.1 h8
    split at h10
    ·rename_i hl
     split at h10
     ·rename_i ho
      obtain⟨cells',h11,h12⟩:=Option.bind_eq_some_iff.1 h10
      obtain rfl:=Option.some.inj h12
      exact zkM hty h1 (zV hle h3) (zV hle h5) (hle.2 _ _ h7) h9 hl ho h11
     ·cases h10
    ·cases h10
   ·cases h8
  ·cases h4
 ·obtain⟨v,h1,h2⟩:=Option.bind_eq_some_iff.1 h
  split at h2
  ·obtain rfl:=Option.some.inj h2
   exact zuK (zV hle h1) hd
  ·cases h2
 ·obtain⟨v,h1,h2⟩:=Option.bind_eq_some_iff.1 h
  split at h2
  ·obtain⟨v,h3,h4⟩:=Option.bind_eq_some_iff.1 h2
   split at h4
   ·split at h4
    ·rename_i hk
     obtain⟨v,h5,h6⟩:=Option.bind_eq_some_iff.1 h4
     obtain rfl:=Option.some.inj h6
     obtain rfl:=zuY hk
     exact zg2 (zV hle h1) (zV hle h3) (zq6 h5) hd
    ·cases h4
   ·cases h4
  ·cases h2
 ·obtain⟨v,h1,h2⟩:=Option.bind_eq_some_iff.1 h
  split at h2
  ·obtain⟨v,h3,h4⟩:=Option.bind_eq_some_iff.1 h2
   obtain rfl:=Option.some.inj h4
   exact zoY (zV hle h1) h3 hd
  ·cases h2
 ·obtain⟨p,h1,h2⟩:=Option.bind_eq_some_iff.1 h
  obtain⟨q,h3,h4⟩:=Option.bind_eq_some_iff.1 h2
  obtain rfl:=Option.some.inj h4
  exact zmR (zV hle h1) (by rw[h3];rfl) hd
 ·obtain⟨i,h1,h2⟩:=Option.bind_eq_some_iff.1 h
  obtain⟨xs,h3,h4⟩:=Option.bind_eq_some_iff.1 h2
  split at h4
  ·rename_i hds
   obtain⟨cells,h5,h6⟩:=Option.bind_eq_some_iff.1 h4
   obtain rfl:=Option.some.inj h6
   exact zsS hty h1 hds (zeZ hle h3) h5 hd
  ·cases h4
 ·obtain⟨ui,h1,h2⟩:=Option.bind_eq_some_iff.1 h
  split at h2
  ·rename_i e hds
   obtain⟨ei,h3,h4⟩:=Option.bind_eq_some_iff.1 h2
   obtain⟨xs,h5,h6⟩:=Option.bind_eq_some_iff.1 h4
   obtain⟨rows,h7,h8⟩:=Option.bind_eq_some_iff.1 h6
   split at h8
   ·rename_i hsm
    split at h8
    ·obtain rfl:=Option.some.inj h8
     exact ztP hty h1 hds h3 (zeZ hle h5) h7 hsm hd
    ·cases h8
   ·cases h8
  ·cases h2
 ·exact ztm hty hd h t2 hle hfr
 ·cases h
theorem WL_p{op:Op}{v:AV}{bs:List (Nat×AB)}(hty:TyOK P ty)(hd:zt nt d=true)(h:zsU ty s ⟨d,op,t,pos,af,none⟩=some (v,bs))(r:WL P w0 nt ops l (s.eff d v bs) K):WL P w0 nt ops (⟨d,op,t,pos,af,none⟩::l) s K:=
 WL_m rfl (zI (e:=(v,bs)) hty hd h) r
end
end Go.Aw
namespace Go.Aw
open Go.RowKit
section
variable {P:Program} {ty:Ty} {w0:B0} {nt:Nat} {s s':AS} {ops:Array Oper} {l:List Oper} {o:Oper} {K:AS→Prop} {C:Exit→AS→Prop} {d:Option Nat} {t:TypeId} {pos:String} {af:Array Edge} {g:Option (Nat×Bool)}
def ztO(op:BinOp)(a b:Int):Option Prop:=match op with
 | .eql=>some (a=b)
 | .neq=>some (a≠b)
 | .lss=>some (a <b)
 | .leq=>some (a≤b)
 | .gtr=>some (b <a)
 | .geq=>some (b≤a)
 |_=>none
theorem ziM{op:BinOp}{k:IntKind}{a b:Int}{p:Prop}(h:ztO op a b=some p):(p→binI op k a b=some (.bool true))∧(¬p→binI op k a b=some (.bool false)):=by
 cases op <;>simp only[ztO]at h <;>first|(cases h;done)|(obtain rfl:=Option.some.inj h;constructor <;>intro q <;>simp[binI] <;>first|exact q|omega|simpa using q)
theorem zj{xt yt:TypeId}{op:BinOp}{x y:Operand}{k:IntKind}{a b:Int}{p:Prop}(hx:evO s x=some (.int k a))(hy:evO s y=some (.int k b))(hp:ztO op a b=some p)(hd:zt nt d=true)
 (h1:p→WL P w0 nt ops l (s.put d (.bool true)) K) (h2: ¬p→WL P w0 nt ops l (s.put d (.bool false)) K):WL P w0 nt ops (⟨d,.binOp op xt x y yt,t,pos,af,none⟩::l) s K:=by
 by_cases h:p
 ·exact ziK rfl (zg2 hx hy ((ziM hp).1 h) hd) (h1 h)
 ·exact ziK rfl (zg2 hx hy ((ziM hp).2 h) hd) (h2 h)
theorem OkOp.guard{g':Option (Nat×Bool)}{op:Op}(h:OkOp P w0 nt ⟨d,op,t,pos,af,none⟩ s s'):OkOp P w0 nt ⟨d,op,t,pos,af,g'⟩ s s':=h
theorem zx{op:Op}{j u:Nat}{b:Bool}(hj:(ops[j]?).bind (·.dst)=some u)(ht:s.env u=some (.bool b))(r:WL P w0 nt ops (⟨d,op,t,pos,af,none⟩::l) s K):WL P w0 nt ops (⟨d,op,t,pos,af,some (j,b)⟩::l) s K:=by
 intro β S a w Q hs hq
 have:=r β S a w Q hs hq
 unfold wpList at this⊢
 rw[if_pos (by simp[Region.wanted])]at this
 rw[if_pos (by simp only[Region.wanted,zg3 hs hj ht,beq_self_eq_true])]
 exact this
theorem zq{op:Op}{j u:Nat}(hj:(ops[j]?).bind (·.dst)=some u)(ht:s.env u=some (.bool false))(hd:zt nt d=true)(r:WL P w0 nt ops l (s.put d (.tup [])) K):WL P w0 nt ops (⟨d,op,t,pos,af,some (j,true)⟩::l) s K:=
 zse rfl hj ht rfl hd r
theorem zot{op:Op}{j u:Nat}(hj:(ops[j]?).bind (·.dst)=some u)(ht:s.env u=some (.bool true))(hd:zt nt d=true)(r:WL P w0 nt ops l (s.put d (.tup [])) K):WL P w0 nt ops (⟨d,op,t,pos,af,some (j,false)⟩::l) s K:=
 zse rfl hj ht rfl hd r
theorem zr{op:Op}{j u:Nat}{b:Bool}(hj:(ops[j]?).bind (·.dst)=some u)(ht:s.env u=some (.tup []))(hd:zt nt d=true)(r:WL P w0 nt ops l (s.put d (.tup [])) K):WL P w0 nt ops (⟨d,op,t,pos,af,some (j,b)⟩::l) s K:=
 ztH rfl hj ht hd r
theorem zd{c:Operand}{x y:Code}(hc:evO s c=some (.bool true))(h:AC P w0 nt x s C):AC P w0 nt (.cond c x y) s C:=zDp hc (fun _=>h) (fun q=>by cases q)
theorem zbZ{c:Operand}{x y:Code}(hc:evO s c=some (.bool false))(h:AC P w0 nt y s C):AC P w0 nt (.cond c x y) s C:=zDp hc (fun q=>by cases q) (fun _=>h)
mutual
inductive Wk:AV→AV→Prop
 |refl (x:AV):Wk x x
 |any (x:AV):Wk x .any
 |full (es:Nat) (rows:List (List AV)) (f:Bool):Wk (.lst es rows f) (.lst es rows false)
 |nil (es es':Nat) (f:Bool):Wk (.lst es [] f) (.lst es' [] f)
 |nilF (es es':Nat) (f:Bool):Wk (.lst es [] f) (.lst es' [] false)
 |rows {es:Nat} {rs rs':List (List AV)} {f:Bool} (h:Wkr rs rs'):Wk (.lst es rs f) (.lst es rs' f)
 |rowsF {es:Nat} {rs rs':List (List AV)} {f:Bool} (h:Wkr rs rs'):Wk (.lst es rs f) (.lst es rs' false)
 |agg {xs ys:List AV} (h:Wks xs ys):Wk (.agg xs) (.agg ys)
 |tup {xs ys:List AV} (h:Wks xs ys):Wk (.tup xs) (.tup ys)
inductive Wks:List AV→List AV→Prop
 |nil:Wks [] []
 |cons {x y:AV} {xs ys:List AV} (h:Wk x y) (hs:Wks xs ys):Wks (x::xs) (y::ys)
inductive Wkr:List (List AV)→List (List AV)→Prop
 |refl (r:List (List AV)):Wkr r r
 |nil:Wkr [] []
 |cons {x y:List AV} {xs ys:List (List AV)} (h:Wks x y) (hs:Wkr xs ys):Wkr (x::xs) (y::ys)
end
theorem Wks.refl: ∀ l:List AV,Wks l l
 |[]=>.nil
 |x::l=>.cons (.refl x) (Wks.refl l)
theorem Wkr.append{a b:List (List AV)}: ∀ {l:List (List AV)},Wkr a b→Wkr (l++a) (l++b)
 |[],h=>h
 |x::_,h=>.cons (Wks.refl x) (Wkr.append h)
theorem Wkr.snoc{l:List (List AV)}{x y:List AV}(h:Wks x y):Wkr (l++[x]) (l++[y]):=Wkr.append (.cons h .nil)
theorem zju{β:Bt}{S:St}{w:World}{v:Value}{es:Nat}{rows:List (List AV)}{f:Bool}(h:VR β S w v (.lst es rows f)):VR β S w v (.lst es rows false):=by
 cases h with
 |lst0=>exact .lst0 _ _
 |lstZ=>exact .lstZ _ _ _
 |lst b o n c _ _ _ cells h1 h2 h3 h4 h5 h6=>exact .lst b o n c es rows false cells h1 h2 (fun q=>by cases q) h4 h5 h6
theorem znw{β:Bt}{S:St}{w:World}{v:Value}{es es':Nat}{f:Bool}(h:VR β S w v (.lst es [] f)):VR β S w v (.lst es' [] f):=by
 cases h with
 |lst0=>exact .lst0 _ _
 |lstZ=>exact .lstZ _ _ _
 |lst b o n c _ _ _ cells h1 h2 h3 h4 h5 h6=>
  obtain rfl:n=0:=h1.symm
  exact .lst b o 0 c es' [] f cells rfl h2 h3 (fun i hi=>by omega) (fun i j hi=>by omega) (fun i j hi=>by omega)
theorem zlv{β:Bt}{S:St}{w:World}{v:Value}{es:Nat}{rs rs':List (List AV)}{f:Bool}(hl:rs'.length=rs.length)
 (hr: ∀ i,i <rs.length→(rs'.getD i []).length=(rs.getD i []).length∧ ∀ (c:Nat→Value),(∀ j,j <(rs.getD i []).length→VR nb S w (c j) ((rs.getD i []).getD j .any))→ ∀ j,j <(rs'.getD i []).length→VR nb S w (c j) ((rs'.getD i []).getD j .any))
 (h:VR β S w v (.lst es rs f)):VR β S w v (.lst es rs' f):=by
 cases h with
 |lst0=>
  obtain rfl:rs'=[]:=List.length_eq_zero_iff.1 hl
  exact .lst0 _ _
 |lstZ=>
  obtain rfl:rs'=[]:=List.length_eq_zero_iff.1 hl
  exact .lstZ _ _ _
 |lst b o n c _ _ _ cells h1 h2 h3 h4 h5 h6=>
  refine .lst b o n c es rs' f cells (by omega) h2 h3 (fun i hi=>by rw[(hr i (by omega)).1];exact h4 i hi) h5 (fun i j hi hj=>?_)
  have h4i:=h4 i hi
  exact(hr i (by omega)).2 (fun j=>cells i j) (fun j hj=>h6 i j hi (by omega)) j (by rw[(hr i (by omega)).1];omega)
mutual
theorem Wk.ok{β:Bt}{S:St}{w:World}{v:Value}{x y:AV}(h:Wk x y)(hv:VR β S w v x):VR β S w v y:=by
 cases h with
 |refl=>exact hv
 |any=>exact .any _
 |full=>exact zju hv
 |nil=>exact znw hv
 |nilF=>exact zju (znw hv)
 |rows hs=>obtain⟨q1,q2⟩:=Wkr.ok (S:=S) (w:=w) hs;exact zlv q1 q2 hv
 |rowsF hs=>obtain⟨q1,q2⟩:=Wkr.ok (S:=S) (w:=w) hs;exact zju (zlv q1 q2 hv)
 |agg hs=>
  cases hv with
  |agg cs _ h1 h3 h4=>
   obtain⟨q1,q2⟩:=Wks.ok hs (cv:=fun j=>cs.getD j undef) h3
   exact .agg cs _ (by omega) q2 (fun j hj=>h4 j (by omega))
 |tup hs=>
  cases hv with
  |tup cs _ h1 h3=>
   obtain⟨q1,q2⟩:=Wks.ok hs (cv:=fun j=>cs.getD j undef) h3
   exact .tup cs _ (by omega) q2
theorem Wks.ok{β:Bt}{S:St}{w:World}{xs ys:List AV}{cv:Nat→Value}(h:Wks xs ys)(hv: ∀ j,j <xs.length→VR β S w (cv j) (xs.getD j .any)):ys.length=xs.length∧ ∀ j,j <ys.length→VR β S w (cv j) (ys.getD j .any):=by
 cases h with
 |nil=>exact⟨rfl,fun j hj=>by simp at hj⟩
 |cons h hs=>
  obtain⟨q1,q2⟩:=Wks.ok hs (cv:=fun j=>cv (j+1)) (fun j hj=>by simpa using hv (j+1) (by simpa using hj))
  refine⟨by simp[q1],fun j hj=>?_⟩
  cases j with
  |zero=>simpa using Wk.ok h (by simpa using hv 0 (by simp))
  |succ j=>simpa using q2 j (by simpa using hj)
theorem Wkr.ok{S:St}{w:World}{rs rs':List (List AV)}(h:Wkr rs rs'):rs'.length=rs.length∧ ∀ i,i <rs.length→(rs'.getD i []).length=(rs.getD i []).length∧
 ∀ (c:Nat→Value),(∀ j,j <(rs.getD i []).length→VR nb S w (c j) ((rs.getD i []).getD j .any))→ ∀ j,j <(rs'.getD i []).length→VR nb S w (c j) ((rs'.getD i []).getD j .any):=by
 cases h with
 |refl=>exact⟨rfl,fun i hi=>⟨rfl,fun c hc=>hc⟩⟩
 |nil=>exact⟨rfl,fun i hi=>by simp at hi⟩
 | @cons x y xs ys h hs=>
   obtain⟨q1,q2⟩:=Wkr.ok (S:=S) (w:=w) hs
   refine⟨by simp[q1],fun i hi=>?_⟩
   cases i with
   |zero=>
    simp only[List.getD_cons_zero]
    have hlen:y.length=x.length:=Wks.len h
    exact⟨hlen,fun c hc=>(Wks.ok h (cv:=c) hc).2⟩
   |succ i=>simpa using q2 i (by simpa using hi)
theorem Wks.len{xs ys:List AV}(h:Wks xs ys):ys.length=xs.length:=by
 cases h with
 |nil=>rfl
 |cons h hs=>simp[Wks.len hs]
end
theorem PC.args{f:Nat}{xs ys:List AV}{res:AV}(h:PC P f ys res)(hw:Wks xs ys):PC P f xs res:=by
 intro w S0 ca h1 h2 h3
 obtain⟨q1,q2⟩:=hw.ok (cv:=fun j=>ca.getD j undef) h3
 exact h w S0 ca h1 (by omega) q2
def zvA(s:AS):List (Nat×AV)→Prop
 |[]=>True
 |(t,v)::l=>(∃ x,s.env t=some x∧Wk x v)∧zvA s l
def envOf:List (Nat×AV)→Nat→Option AV
 |[],_=>none
 |(t,v)::l,u=>match Nat.beq u t with
  |true=>some v
  |false=>envOf l u
theorem Less.refl(s:AS):Less s s:=fun _ _ β S _ _ h=>⟨β,S,h⟩
theorem Less.trans{a b c:AS}(h:Less a b)(k:Less b c):Less a c:=fun w0 nt β S ac w q=>by
 obtain⟨β1,S1,q1⟩:=h w0 nt β S ac w q
 exact k w0 nt β1 S1 ac w q1
end
end Go.Aw
namespace Go.Aw
open Go.RowKit
section
variable {P:Program} {ty:Ty} {w0:B0} {nt:Nat} {s s':AS} {ops:Array Oper} {l:List Oper} {o:Oper} {K:AS→Prop} {C:Exit→AS→Prop} {d:Option Nat} {t:TypeId} {pos:String} {af:Array Edge} {g:Option (Nat×Bool)}
structure FC (P:Program) (f:Nat) (args:List AV) (res:AV):Prop where
 pc:PC P f args res
 fn: ∃ fn,P.funcs[f]? =some fn∧fn.body.isNone=false∧(fn.name=="runtime.NumGoroutine")=false
theorem FC.args{f:Nat}{xs ys:List AV}{res:AV}(h:FC P f ys res)(hw:Wks xs ys):FC P f xs res:=⟨h.pc.args hw,h.fn⟩
def zgp(id:Nat):AV→Option (AV×List (Nat×AB))
 | .own e es rows wr=>some (.arr id,[(id,.arr e es rows wr)])
 |x=>match zf5 x with
  |true=>some (x,[])
  |false=>none
def zlR(id:Nat):List AV→Option (List AV×List (Nat×AB))
 |[]=>some ([],[])
 |x::l=>match zgp id x with
  |some (y,b1)=>match zlR (id+1000) l with
   |some (ys,b2)=>some (y::ys,b1++b2)
   |none=>none
  |none=>none
def zhh(id:Nat):AV→Option (AV×List (Nat×AB))
 | .tup xs=>match zlR id xs with
   |some (ys,bs)=>some (.tup ys,bs)
   |none=>none
 |x=>zgp id x
theorem zhe(b:Bk): ∀ (l r:List (Nat×AB)),setBs b (l++r)=setBs (setBs b l) r
 |[],r=>rfl
 |(i,k)::l,r=>by simp only[List.cons_append,setBs];exact zhe _ l r
theorem zfx{b:Bk}{i:Nat}: ∀ {l:List (Nat×AB)},(∀ p∈l,p.1≠i)→setBs b l i=b i
 |[],_=>rfl
 |(j,k)::l,h=>by
  simp only[setBs]
  rw[zfx (fun p hp=>h p (List.mem_cons_of_mem _ hp)),zJ]
  exact fun e=>h (j,k) List.mem_cons_self e.symm
theorem zli{id:Nat}{blk:Bk}{x y:AV}{bs:List (Nat×AB)}(h:zgp id x=some (y,bs))(hn: ∀ p∈bs,blk p.1=none):thaw1 id blk x=some (y,setBs blk bs)∧ ∀ p∈bs,p.1=id:=by
 by_cases e:za3 x=true
 ·cases x <;>simp[za3]at e
  simp only[zgp,Option.some.injEq,Prod.mk.injEq]at h
  obtain⟨rfl,rfl⟩:=h
  refine⟨?_,fun p hp=>by rw[List.mem_singleton.1 hp]⟩
  simp only[thaw1,hn (_,_) (List.mem_singleton.2 rfl)]
  rfl
 ·have e':za3 x=false:=by simpa using e
  have hx:zf5 x=true∧y=x∧bs=[]:=by
   cases x <;>simp only[zgp]at h <;>first
    |(simp[za3]at e';done)
    |(split at h
      ·obtain⟨rfl,rfl⟩:=Prod.mk.inj (Option.some.inj h);exact⟨by assumption,rfl,rfl⟩
      ·cases h)
  obtain⟨hc,rfl,rfl⟩:=hx
  refine⟨?_,fun p hp=>by cases hp⟩
  cases y <;>first|(simp[za3]at e';done)|(simp only[thaw1,hc];rfl)
theorem zhL: ∀ {xs:List AV} {id:Nat} {blk:Bk} {ys:List AV} {bs:List (Nat×AB)},zlR id xs=some (ys,bs)→(∀ p∈bs,blk p.1=none)→thawL id blk xs=some (ys,setBs blk bs)∧ ∀ p∈bs,id≤p.1
 |[],id,blk,ys,bs,h,_=>by
  obtain⟨rfl,rfl⟩:=Prod.mk.inj (Option.some.inj h)
  exact⟨rfl,fun p hp=>by cases hp⟩
 |x::l,id,blk,ys,bs,h,hn=>by
  simp only[zlR]at h
  split at h
  ·rename_i y b1 e1
   split at h
   ·rename_i ys2 b2 e2
    obtain⟨rfl,rfl⟩:=Prod.mk.inj (Option.some.inj h)
    obtain⟨h1,h2⟩:=zli (blk:=blk) e1 (fun p hp=>hn p (List.mem_append_left _ hp))
    have hid: ∀ p∈b2,id+1000≤p.1:=(zhL (blk:=fun _=>none) e2 (fun _ _=>rfl)).2
    obtain⟨h3,h4⟩:=zhL (blk:=setBs blk b1) e2 (fun p hp=>by
     rw[zfx (fun q hq e=>by have:=h2 q hq;have:=hid p hp;omega)]
     exact hn p (List.mem_append_right _ hp))
    refine⟨?_,fun p hp=>?_⟩
    ·simp only[thawL,h1,h3,zhe]
    ·rcases List.mem_append.1 hp with q|q
     ·have:=h2 p q;omega
     ·have:=h4 p q;omega
   ·cases h
  ·cases h
theorem zjq{id:Nat}{blk:Bk}{x y:AV}{bs:List (Nat×AB)}(h:zhh id x=some (y,bs))(hn: ∀ p∈bs,blk p.1=none):thaw id blk x=some (y,setBs blk bs):=by
 by_cases e: ∃ xs,x=.tup xs
 ·obtain⟨xs,rfl⟩:=e
  simp only[zhh]at h
  split at h
  ·rename_i ys b2 e1
   obtain⟨rfl,rfl⟩:=Prod.mk.inj (Option.some.inj h)
   simp only[thaw,(zhL e1 hn).1]
  ·cases h
 ·have h':zgp id x=some (y,bs):=by cases x <;>first|exact h|exact absurd ⟨_,rfl⟩ e
  have:=(zli h' hn).1
  cases x <;>first|exact this|exact absurd ⟨_,rfl⟩ e
theorem zar{f:Nat}{ops:Array Operand}{ts:Array TypeId}{xs:List AV}{res:AV}{e:Ef}(id:Nat)(ha:za4 s ops.toList=some xs)(hc:FC P f xs res)(ht:zhh id res=some e)
 (hid:e.2.all (fun p=>(s.blk p.1).isNone)=true) (hd:zt nt d=true):MStep P w0 nt ⟨d,.call {callee:=.value (.func f),args:=ops,argTypes:=ts},t,pos,af,g⟩ s e.1 e.2:=by
 intro t2 hle hfr
 obtain⟨fn,h1,h2,h3⟩:=hc.fn
 have hn: ∀ p∈e.2,t2.blk p.1=none:=fun p hp=>hfr p hp (by
  have:=List.all_eq_true.1 hid p hp
  cases q:s.blk p.1 with
  |none=>rfl
  |some k=>simp[q]at this)
 exact ztG id h1 h2 h3 (zcD hle ha) hc.pc (zjq ht hn) hd
theorem zv{f:Nat}{as:Array Operand}{ts:Array TypeId}{xs:List AV}{res:AV}{e:Ef}(id:Nat)(ha:za4 s as.toList=some xs)(hc:FC P f xs res)(ht:zhh id res=some e)
 (hid:e.2.all (fun p=>(s.blk p.1).isNone)=true) (hd:zt nt d=true) (r:WL P w0 nt ops l (s.eff d e.1 e.2) K):WL P w0 nt ops (⟨d,.call {callee:=.value (.func f),args:=as,argTypes:=ts},t,pos,af,none⟩::l) s K:=
 WL_m rfl (zar id ha hc ht hid hd) r
theorem zL{f:Nat}{as:Array Operand}{ts:Array TypeId}{xs:List AV}{b:Bool}(ha:za4 s as.toList=some xs)(hc:FC P f xs (.bool b))(hd:zt nt d=true)
 (h1:b=true→WL P w0 nt ops l (s.put d (.bool true)) K) (h2:b=false→WL P w0 nt ops l (s.put d (.bool false)) K):WL P w0 nt ops (⟨d,.call {callee:=.value (.func f),args:=as,argTypes:=ts},t,pos,af,none⟩::l) s K:=by
 refine zv 0 ha hc rfl rfl hd ?_
 cases b
 ·exact h2 rfl
 ·exact h1 rfl
def argVs(blk:Bk):List AV→Option (List AV)
 |[]=>some []
 |x::l=>match argV blk x,argVs blk l with
  |some y,some r=>some (y::r)
  |_,_=>none
def packL(blk:Bk):List AV→Option AV
 |[x]=>argV blk x
 |l=>(argVs blk l).map .tup
theorem ziU{w:World}{β:Bt}{S:St}{blk:Bk}(h:HR w0 β S blk w): ∀ {xs ys:List AV} {cv:Nat→Value},argVs blk xs=some ys→(∀ j,j <xs.length→VR β S w (cv j) (xs.getD j .any))→
 ys.length=xs.length∧ ∀ j,j <ys.length→VR nb S w (cv j) (ys.getD j .any)
 |[],ys,cv,ha,_=>by obtain rfl:=Option.some.inj ha;exact⟨rfl,fun j hj=>by simp at hj⟩
 |x::l,ys,cv,ha,hv=>by
  simp only[argVs]at ha
  split at ha
  ·rename_i y r e1 e2
   obtain rfl:=Option.some.inj ha
   obtain⟨q1,q2⟩:=ziU h (cv:=fun j=>cv (j+1)) e2 (fun j hj=>by simpa using hv (j+1) (by simpa using hj))
   refine⟨by simp[q1],fun j hj=>?_⟩
   cases j with
   |zero=>simpa using zcb h (hv 0 (by simp)) e1
   |succ j=>simpa using q2 j (by simpa using hj)
  ·cases ha
theorem zuj{S:St}{w w':World}{v:Value}{x:AV}(h:VR nb S w' v x):RV S w w' v x:=by
 cases x with
 |tup xs=>
  cases h with
  |tup cs _ h1 h3=>exact⟨cs,fun _=>0,rfl,h1,fun j hj=>zs9 (h3 j hj),fun i j hij hj oi _=>absurd (zhN (h3 i (Nat.lt_trans hij hj))) (by rw[oi];decide)⟩
 |own=>cases h
 |_=>exact⟨0,h⟩
theorem zn0{w:World}{β:Bt}{S:St}{blk:Bk}(h:HR w0 β S blk w){vs:List AV}{us:List Value}{res0 res:AV}(hl:us.length=vs.length)(hv: ∀ j,j <vs.length→VR β S w (us.getD j undef) (vs.getD j .any))
 (hp:packL blk vs=some res0) (hw:Wk res0 res):RV S w0.w w (if h:us.toArray.size=1 then us.toArray[0]else .tuple us.toArray) res:=by
 have multi:(∀ x,vs≠[x])→RV S w0.w w (.tuple us.toArray) res:=by
  intro hne
  have hp': ∃ ys,argVs blk vs=some ys∧res0=.tup ys:=by
   match vs,hp,hne with
   |[],hp,_=>exact⟨[],rfl,(Option.some.inj hp).symm⟩
   |[x],_,hne=>exact absurd rfl (hne x)
   |x::y::l,hp,_=>
    simp only[packL]at hp
    obtain⟨ys,h1,h2⟩:=Option.map_eq_some_iff.1 hp
    exact⟨ys,h1,h2.symm⟩
  obtain⟨ys,h1,rfl⟩:=hp'
  obtain⟨q1,q2⟩:=ziU h (cv:=fun j=>us.getD j undef) h1 hv
  exact zuj (hw.ok (.tup us.toArray ys (by simp[hl,q1]) (fun j hj=>by have:=q2 j hj;rw[←zag,List.toList_toArray];exact this)))
 by_cases hone: ∃ x,vs=[x]
 ·obtain⟨x,rfl⟩:=hone
  match us,hl with
  |[u],_=>
   have hu:VR β S w u x:=by simpa using hv 0 (by simp)
   simpa using zuj (w:=w0.w) (hw.ok (zcb h hu (show argV blk x=some res0 from hp)))
 ·have hne: ¬us.toArray.size=1:=by
   intro e
   have hlen:vs.length=1:=by rw[←hl];simpa using e
   obtain⟨x,hx⟩:=List.length_eq_one_iff.1 hlen
   exact hone ⟨x,hx⟩
  rw[dif_neg hne]
  exact multi (fun x e=>hone ⟨x,e⟩)
def zdS(ty:Ty)(rs:List ResultVar)(res:AV)(e:Exit)(s':AS):Prop:=
 (e=.ret∨e=.normal)∧ ∃ s2,Less s' s2∧ ∃ vs,resL ty s2 rs=some vs∧((∃ x,packL s2.blk vs=some x∧Wk x res)∨zqU s2.blk vs=some res)
theorem zH{rs:List ResultVar}{vs:List AV}{x res:AV}(h:resL ty s' rs=some vs)(hp:packL s'.blk vs=some x)(hx:Wk x res):zdS ty rs res .ret s':=⟨.inl rfl,_,.refl _,vs,h,.inl ⟨x,hp,hx⟩⟩
theorem zdC{rs:List ResultVar}{vs:List AV}{x res:AV}(h:resL ty s' rs=some vs)(hp:packL s'.blk vs=some x)(hx:x=res):zdS ty rs res .ret s':=zH h hp (by rw[hx];exact .refl _)
theorem zes{rs:List ResultVar}{vs:List AV}{x res:AV}(h:resL ty s' rs=some vs)(hp:zqU s'.blk vs=some x)(hx:x=res):zdS ty rs res .ret s':=⟨.inl rfl,_,.refl _,vs,h,.inr (by rw[hp,hx])⟩
theorem zbm{rs:List ResultVar}{res:AV}{s2:AS}{e:Exit}(h:Less s' s2)(k:zdS ty rs res e s2):zdS ty rs res e s':=⟨k.1,k.2.choose,h.trans k.2.choose_spec.1,k.2.choose_spec.2⟩
theorem zb{rs:List ResultVar}{b c:Bool}(h:resL ty s' rs=some [.bool b])(hb:b=c):zdS ty rs (.bool c) .ret s':=zdC h rfl (by rw[hb])
theorem zaQ{rs:List ResultVar}{k:IntKind}{b c:Int}(h:resL ty s' rs=some [.int k b])(hb:b=c):zdS ty rs (.int k c) .ret s':=zdC h rfl (by rw[hb])
theorem zo(hty:TyOK P ty){f:Nat}{fn:Func}{c:Code}{args:List AV}{res:AV}(hf:P.funcs[f]? =some fn)(hb:fn.body=some c)(hname:(fn.name=="runtime.NumGoroutine")=false)(hn:Nat.ble args.length fn.ntmps=true)
 (h: ∀ w0:B0,AC P w0 fn.ntmps c ⟨fun t=>args[t]?,fun _=>none⟩ (zdS ty fn.results.toList res)):FC P f args res:=by
 refine⟨?_,fn,hf,by rw[hb];rfl,hname⟩
 intro w S0 ca hS hsz hca
 have hn:=Nat.le_of_ble_eq_true hn
 refine calls_of_wp hf hb (h ⟨w,S0,(· <w.heap.size),fun _ h=>h⟩ nb S0 _ _ _ ⟨⟨fun id k q=>(by cases q),fun id bi q=>(by cases q),fun i j bi bj ki kj _ q=>(by cases q),fun b o q=>q,fun b o q _=>q,hS,BelowP.refl _ _⟩,?_,?_,rfl⟩ ?_)
 ·intro t x hx
  have hlt:t <args.length:=(List.getElem?_eq_some_iff.1 hx).1
  have:=hca t hlt
  have hx':args[t]? =some x:=hx
  have e1:args.getD t .any=x:=by rw[List.getD_eq_getElem?_getD,hx'];rfl
  have e2:(ca++Array.replicate (fn.ntmps-ca.size) undef).getD t undef=ca.getD t undef:=by
   simp only[Array.getD_eq_getD_getElem?]
   rw[Array.getElem?_append_left (by omega)]
  rw[e1]at this
  simp only[e2]
  exact this
 ·simp only[Array.size_append,Array.size_replicate];omega
 ·intro e β' S' a' w' s' hk hs'
  obtain⟨he,s2,hl2,vs,h1,h2⟩:=hk
  obtain⟨β',S',hs'⟩:=hl2 _ _ _ _ _ _ hs'
  obtain⟨us,h3,h4,h5⟩:=zhn hty hs' h1
  have hres:(results fn a'.tmps).run P w'=.ok (if h:us.toArray.size=1 then us.toArray[0]else .tuple us.toArray) w':=by
   rw[zeT,Array.mapM_eq_mapM_toList]
   simp only[Sem.run_bind,Sem.run_map,h3,Result.andThen_ok,Sem.run_pure]
  have hpost:a'.defers=[]∧ ∃ v,(results fn a'.tmps).run P w'=.ok v w'∧ ∃ v2 S2,Ending.returned v=Ending.returned v2∧Below w.heap.size w w'∧(∀ b o,S0 b o→S2 b o)∧(∀ b o,S2 b o→b <w.heap.size→S0 b o)∧(∀ b o,S2 b o→b <w'.heap.size)∧RV S2 w w' v2 res:=
   ⟨hs'.hdefers,_,hres,_,S',rfl,hs'.hh.hbelow.below,hs'.hh.hold,hs'.hh.hnew,hs'.hh.hlt,by
    rcases h2 with h2|h2
    ·obtain⟨x,h2,h6⟩:=h2
     exact zn0 hs'.hh h4 h5 h2 h6
    ·exact zmU (fun b hb=>Nat.le_of_not_lt hb) hs'.hh h4 h5 h2⟩
  rcases he with rfl|rfl
  ·exact hpost
  ·exact hpost
theorem zaF(id:Nat){e es:Nat}{rows:List (List AV)}{wr:Bool}{pin:Option BI}(hk:s.blk id=some (.ar pin e es rows wr)):Less s (s.setB id (.ar pin e es rows false)):=by
 intro w0 nt β S a w hs
 obtain⟨bi,hbi,_⟩:=hs.hh.hblk id _ hk
 obtain⟨S',h1,h2,_⟩:=hs.hh.freeze hk hbi
 exact⟨β,S',h1,fun t x q=>h2 (hs.henv t x q),hs.hsize,hs.hdefers⟩
theorem z6(id:Nat){pin:Option BI}{cells cells':List AV}(hk:s.blk id=some (.bx pin cells))(hc:argSs s.blk cells=some cells'):Less s (s.setB id (.rob cells')):=by
 intro w0 nt β S a w hs
 obtain⟨bi,hbi,hbr,_⟩:=hs.hh.hblk id _ hk
 obtain⟨cs,t,h1,h2,h3,h4⟩:=hbr
 obtain⟨q1,q2⟩:=zhd hs.hh (cv:=fun j=>cs.getD j undef) hc (fun j hj=>by
  have:=(h3 j hj).1
  rwa[Nat.zero_add]at this)
 obtain⟨r1,r2⟩:=hs.hh.turn (k':=.rob cells') (S':=fun b o=>S b o∨(b=bi.b∧o <cells.length)) hk rfl hbi
  (fun b o=>⟨fun q=>q.elim .inl (fun q=>.inr ⟨q.1,.inr q⟩),fun q=>q.elim .inl (fun q=>q.2)⟩) (fun _ j hj=>by
    have hj2:j <cells.length:=by omega
    have hsz:j <cs.size:=by omega
    refine⟨.inr ⟨rfl,hj2⟩,cs.getD j undef,by simp[World.cell?,h1,Array.getD,hsz],?_,(q2 j hj).mono (fun _ _ q=>q) (fun b o q=>⟨.inl q,rfl⟩)⟩
    have:=(h3 j hj2).2
    rwa[Nat.zero_add]at this)
 exact⟨β,_,r1,fun t x q=>r2 (hs.henv t x q),hs.hsize,hs.hdefers⟩
def znn(ids:List Nat):AV→Bool
 | .ptr id _=>ids.any (Nat.beq id)
 |x=>zai x
def zfb(ids:List Nat):AV→Bool
 | .ptr id _=>ids.any (Nat.beq id)
 | .arr id=>ids.any (Nat.beq id)
 | .aptr id _ _=>ids.any (Nat.beq id)
 | .mp id=>ids.any (Nat.beq id)
 | .fn _ a b=>a.all (znn ids)&&b.all (znn ids)
 |x=>zaj x
def keepV(ids:List Nat):AV→Bool
 | .agg cs=>cs.all (zfb ids)
 | .tup vs=>vs.all zgO
 |x=>zfb ids x
def zhu(β:Bt)(ids:List Nat):Bt:=fun i=>match ids.any (Nat.beq i)with
 |true=>β i
 |false=>none
theorem zg6{ids:List Nat}{x:AV}(h:zai x=true):znn ids x=true:=by cases x <;>first|exact h|(simp[zai]at h)
theorem zlG{ids:List Nat}{x:AV}(h:zaj x=true):zfb ids x=true:=by
 cases x <;>first
  |exact h
  |(simp[zaj,zai]at h;done)
  |skip
 rename_i a b
 simp only[zaj,Bool.and_eq_true]at h
 simp only[zfb,Bool.and_eq_true]
 exact⟨List.all_eq_true.2 fun x hx=>zg6 (List.all_eq_true.1 h.1 x hx),List.all_eq_true.2 fun x hx=>zg6 (List.all_eq_true.1 h.2 x hx)⟩
theorem zne{β:Bt}{S:St}{w:World}{ids:List Nat}{v:Value}{x:AV}(hk:znn ids x=true)(h:VR β S w v x):VR (zhu β ids) S w v x:=by
 by_cases hc:zai x=true
 ·exact VR.up (zbp hc h)
 ·cases x <;>first
   |exact absurd hk hc
   |skip
  rename_i id off
  cases h with
  |ptr _ _ bi hb=>exact .ptr id off bi (by simp only[zhu];rw[show ids.any (Nat.beq id)=true from hk];exact hb)
theorem zi6{β:Bt}{S:St}{w:World}{ids:List Nat}{v:Value}{x:AV}(hk:zfb ids x=true)(h:VR β S w v x):VR (zhu β ids) S w v x:=by
 cases h with
 |ptr id off bi hb=>exact .ptr id off bi (by simp only[zhu];rw[show ids.any (Nat.beq id)=true from hk];exact hb)
 |arr id bi hb=>exact .arr id bi (by simp only[zhu];rw[show ids.any (Nat.beq id)=true from hk];exact hb)
 |aptr id i off bi hb=>exact .aptr id i off bi (by simp only[zhu];rw[show ids.any (Nat.beq id)=true from hk];exact hb)
 |mp id bi hb=>exact .mp id bi (by simp only[zhu];rw[show ids.any (Nat.beq id)=true from hk];exact hb)
 |any=>exact .any _
 |int=>exact .int _ _
 |bool=>exact .bool _
 |str=>exact .str _
 |nilp=>exact .nilp
 |nilf=>exact .nilf
 |lst0=>exact .lst0 _ _
 |lstZ=>exact .lstZ _ _ _
 |lst _ _ _ _ _ _ _ _ h1 h2 h3 h4 h5 h6=>exact .lst _ _ _ _ _ _ _ _ h1 h2 h3 h4 h5 h6
 |eptr _ _ _ _ _ h5 h6=>exact .eptr _ _ _ _ _ h5 h6
 |fn f fi ca xi xa h1 h2 h3 h4=>
  simp only[zfb,Bool.and_eq_true]at hk
  exact .fn f fi ca xi xa h1 h2 (fun j hj=>zne (za7 hk.1 hj) (h3 j hj)) (fun j hj=>zne (za7 hk.2 hj) (h4 j hj))
 |agg=>simp[zfb,zaj,zai]at hk
 |tup=>simp[zfb,zaj,zai]at hk
theorem za0{ids:List Nat}{x:AV}(h:zaj x=true):keepV ids x=true:=by
 have:=zlG (ids:=ids) h
 cases x <;>first
  |exact this
  |exact absurd h (by decide)
  |(simp[zaj,zai]at h;done)
theorem ztg{β:Bt}{S:St}{w:World}{ids:List Nat}{v:Value}{x:AV}(hk:keepV ids x=true)(h:VR β S w v x):VR (zhu β ids) S w v x:=by
 by_cases e: ∃ cs,x=.agg cs
 ·obtain⟨cs,rfl⟩:=e
  cases h with
  |agg c xs h1 h3 h4=>exact .agg c cs h1 (fun j hj=>zi6 (za7 hk hj) (h3 j hj)) h4
 ·by_cases e2: ∃ vs,x=.tup vs
  ·obtain⟨vs,rfl⟩:=e2
   exact VR.up (zjK hk h)
  ·exact zi6 (by cases x <;>first|exact hk|exact absurd ⟨_,rfl⟩ e|exact absurd ⟨_,rfl⟩ e2) h
def keepB(ids:List Nat):AB→Bool
 | .bx _ cells=>cells.all (zfb ids)
 |_=>true
theorem zsR{β:Bt}{S:St}{w:World}{ids:List Nat}{bi:BI}{k:AB}(hk:keepB ids k=true)(h:BR β S w bi k):BR (zhu β ids) S w bi k:=by
 cases k with
 |bx p cells=>
  obtain⟨cs,t,h1,h2,h3,h4⟩:=h
  exact⟨cs,t,h1,h2,fun j hj=>⟨zi6 (za7 hk hj) (h3 j hj).1,(h3 j hj).2⟩,h4⟩
 |ar=>exact h
 |ro=>exact h
 |gone=>exact h
 |rob=>exact h
 |mp=>exact h
inductive WkB:AB→AB→Prop
 |refl (k:AB):WkB k k
 |box {p:Option BI} {xs ys:List AV} (h:Wks xs ys):WkB (.bx p xs) (.bx p ys)
 |arr {p:Option BI} {e es:Nat} {rs rs':List (List AV)} {wr:Bool} (h:Wkr rs rs'):WkB (.ar p e es rs wr) (.ar p e es rs' wr)
theorem WkB.of_eq{x y:AB}(h:x=y):WkB x y:=h▸.refl x
theorem WkB.live{x y:AB}(h:WkB x y):y.live=x.live:=by cases h <;>rfl
theorem WkB.ok{β:Bt}{S:St}{w:World}{bi:BI}{x y:AB}(h:WkB x y)(hb:BR β S w bi x):BR β S w bi y:=by
 cases h with
 |refl=>exact hb
 | @box p xs ys h=>
   obtain⟨cs,t,h1,h2,h3,h4⟩:=hb
   have hl:=h.len
   refine⟨cs,t,h1,by omega,fun j hj=>⟨?_,(h3 j (by omega)).2⟩,h4⟩
   exact(h.ok (cv:=fun j=>cs.getD (0+j) undef) (fun j hj=>(h3 j hj).1)).2 j hj
 | @arr p e es rs rs' wr h=>
   obtain⟨b1,b2,cs,b3,b4,b5,b6,b7,b8⟩:=hb
   obtain⟨q1,q2⟩:=Wkr.ok (S:=S) (w:=w) h
   refine⟨b1,by omega,cs,b3,b4,b5,b6,fun i hi=>?_,b8⟩
   obtain⟨r1,r2⟩:=b7 i (by omega)
   obtain⟨g1,g2⟩:=q2 i (by omega)
   exact⟨by omega,fun j hj=>⟨g2 (fun j=>cs.getD (i*es+j) undef) (fun j hj=>(r2 j hj).1) j hj,(r2 j (by omega)).2⟩⟩
def SeeV(blk:Bk)(ids:List Nat)(x v:AV):Prop:=(Wk x v∧keepV ids v=true)∨ ∃ y,argV blk x=some y∧Wk y v
def subV(s:AS)(ids:List Nat):List (Nat×AV)→Prop
 |[]=>True
 |(t,v)::l=>(∃ x,s.env t=some x∧SeeV s.blk ids x v)∧subV s ids l
def subB(s:AS)(ids:List Nat):List (Nat×AB)→Prop
 |[]=>True
 |(t,v)::l=>((∃ k,s.blk t=some k∧WkB k v)∧keepB ids v=true)∧subB s ids l
def bkOf:List (Nat×AB)→Bk
 |[],_=>none
 |(t,v)::l,u=>match Nat.beq u t with
  |true=>some v
  |false=>bkOf l u
theorem zz{s:AS}{ids:List Nat}{t:Nat}{v:AV}(h:s.env t=some v)(k:keepV ids v=true): ∃ x,s.env t=some x∧SeeV s.blk ids x v:=⟨v,h,.inl ⟨.refl _,k⟩⟩
theorem zw{s:AS}{ids:List Nat}{t:Nat}{v:AB}(h:s.blk t=some v)(k:keepB ids v=true):(∃ k,s.blk t=some k∧WkB k v)∧keepB ids v=true:=⟨⟨v,h,.refl _⟩,k⟩
theorem zqR{ids:List Nat}: ∀ {l:List (Nat×AV)},subV s ids l→ ∀ t v,envOf l t=some v→ ∃ x,s.env t=some x∧SeeV s.blk ids x v
 |[],_,t,v,h=>by cases h
 |(u,y)::l,hl,t,v,h=>by
  unfold envOf at h
  split at h
  ·rename_i e
   obtain rfl:=Option.some.inj h
   rw[Nat.eq_of_beq_eq_true e];exact hl.1
  ·exact zqR hl.2 t v h
theorem ziQ{ids:List Nat}: ∀ {l:List (Nat×AB)},subB s ids l→ ∀ t v,bkOf l t=some v→(∃ k,s.blk t=some k∧WkB k v)∧keepB ids v=true
 |[],_,t,v,h=>by cases h
 |(u,y)::l,hl,t,v,h=>by
  unfold bkOf at h
  split at h
  ·rename_i e
   obtain rfl:=Option.some.inj h
   rw[Nat.eq_of_beq_eq_true e];exact hl.1
  ·exact ziQ hl.2 t v h
theorem zka: ∀ {l:List (Nat×AB)} {t:Nat},(l.map (·.1)).any (Nat.beq t)=true→ ∃ v,bkOf l t=some v
 |[],t,h=>by simp at h
 |(u,y)::l,t,h=>by
  unfold bkOf
  cases e:Nat.beq t u with
  |true=>exact⟨y,rfl⟩
  |false=>exact zka (by simpa[e]using h)
theorem zhO: ∀ {l:List (Nat×AB)} {t:Nat} {v:AB},bkOf l t=some v→(l.map (·.1)).any (Nat.beq t)=true
 |[],t,v,h=>by cases h
 |(u,y)::l,t,v,h=>by
  unfold bkOf at h
  split at h
  ·rename_i e;simp[e]
  ·have:=zhO h;simp only[List.map_cons,List.any_cons,this,Bool.or_true]
theorem zfY{l:List (Nat×AV)}{bl:List (Nat×AB)}(h:subV s (bl.map (·.1)) l)(hb:subB s (bl.map (·.1)) bl):Less s ⟨envOf l,bkOf bl⟩:=by
 intro w0 nt β S a w hs
 refine⟨zhu β (bl.map (·.1)),S,⟨?_,?_,?_,hs.hh.hold,hs.hh.hnew,hs.hh.hlt,hs.hh.hbelow⟩,fun t x hx=>?_,hs.hsize,hs.hdefers⟩
 ·intro id k hk
  obtain⟨⟨k0,h1,h0⟩,h2⟩:=ziQ hb id k hk
  obtain⟨bi,h3,h4,h5⟩:=hs.hh.hblk id k0 h1
  exact⟨bi,by simp only[zhu];rw[zhO hk];exact h3,zsR h2 (h0.ok h4),fun q=>h5 (by rw[←h0.live];exact q)⟩
 ·intro id bi hbi
  simp only[zhu]at hbi
  split at hbi
  ·rename_i e;exact zka e
  ·cases hbi
 ·intro i j bi bj ki kj hne q1 l1 q2 l2 p1 p2
  have e1:β i=some bi:=by
   simp only[zhu]at p1
   split at p1
   ·exact p1
   ·cases p1
  have e2:β j=some bj:=by
   simp only[zhu]at p2
   split at p2
   ·exact p2
   ·cases p2
  obtain⟨⟨k1,g1,g2⟩,_⟩:=ziQ hb i ki q1
  obtain⟨⟨k2,g3,g4⟩,_⟩:=ziQ hb j kj q2
  exact hs.hh.hinj i j bi bj k1 k2 hne g1 (by rw[←g2.live];exact l1) g3 (by rw[←g4.live];exact l2) e1 e2
 ·obtain⟨y,h1,h2⟩:=zqR h t x hx
  rcases h2 with⟨h2,h3⟩|⟨z,h2,h3⟩
  ·exact ztg h3 (h2.ok (hs.henv t y h1))
  ·exact h3.ok (VR.up (zcb hs.hh (hs.henv t y h1) h2))
end
end Go.Aw
