/- More fuel tells the same type, by the same traces; the fuel that was spent is en -/
import Derived.Test.YtokfbblhjpfjkaaGreatLInferD
import Derived.Test.YtokfbblhjpfjkaaGreatGN
set_option linter.unusedSimpArgs false
set_option linter.unusedVariables false
namespace Go.Proofs.YtokfbblhjpfjkaaGreat
open Go.Aw Go.RowKit
section
variable {σ α β:Type}
def Er(m:WM σ α):Prop:= ∀ e s,e≠0→(m (e,s)).2=(e,s)
theorem Er.pure(a:α):Er (σ:=σ) (zzZ a):=fun _ _ _=>rfl
theorem Er.ok(z:α)(m:WM σ α):Er (okW z m):=fun e s h=>by unfold okW;rw[if_pos h]
theorem Er.want(b:Bool)(er:Int):Er (σ:=σ) (wantW b er):=fun e s h=>by unfold wantW;rw[if_neg (fun q=>h q.1)]
theorem Er.bind{m:WM σ α}{f:α→WM σ β}(h1:Er m)(h2: ∀ a,Er (f a)):Er (zyN m f):=fun e s h=>by unfold zyN;rw[h1 e s h];exact h2 _ e s h
theorem Er.got(r:Tm×Int):Er (σ:=σ) (gotW r):=.bind (.want _ _) fun _=>.pure _
theorem Er.need{b:Bool}{er:Int}{m:WM σ Tm}(h:Er m):Er (zBh b er m):=.bind (.want _ _) fun ok=>by
 cases ok
 ·exact .pure _
 ·exact h
theorem Er.iff{b:Bool}{m k:WM σ α}(h:Er m)(h2:Er k):Er (if b=true then m else k):=by cases b <;>assumption
theorem Er.level{ty:List Tm→Tm→WM σ Tm}(h: ∀ c t,Er (ty c t))(c:List Tm)(a:Tm):Er (zz4 ty c a):=.bind (h c a) fun _=>.bind (.want _ _) fun _=>.pure _
theorem Er.of{ty:List Tm→Tm→WM σ Tm}(h: ∀ c t,Er (ty c t))(c:List Tm)(a b:Tm):Er (ofW ty c a b):=.bind (h c a) fun _=>.ok _ _
theorem Er.behind(c:List Tm)(a:Tm):Er (σ:=σ) (zBS c a):=.bind (.want _ _) fun _=>.pure _
theorem Er.sig{ty:List Tm→Tm→WM σ Tm}(h: ∀ c t,Er (ty c t))(c:List Tm)(a:Tm){f:Tm→WM σ Tm}(h2: ∀ s,Er (f s)):Er (zEZ ty c a f):=.bind (h c a) fun s=>.need (h2 s)
theorem Er.typ(N:σ→Tm→Tm×Int×σ)(env:List En): ∀ n c t,Er (typW N env n c t)
 |0,_,_=>.ok _ _
 |_+1,_,_=>.ok _ _
end
def zB3(ps:List (List (List Int))):Int:=(ps.map fun p=>(p.length:Int)).foldr (· +·) 0
theorem zCg: ∀ (a b:List (List (List Int))),zB3 (a++b)=zB3 a+zB3 b
 |[],b=>by simp[zB3]
 |x::a,b=>by
  have:=zCg a b
  simp only[zB3,List.map_cons,List.foldr_cons,List.cons_append]at this⊢
  omega
def Fu{α:Type}(m:WM Tk α):Prop:= ∀ (l u:Int) (tr:List (List (List Int))),0≤l→
 ((m (0,(l,u,tr))).2.1=0→ ∃ ps,0≤zB3 ps∧zB3 ps≤l∧(m (0,(l,u,tr))).2.2=(l-zB3 ps,u+zB3 ps,tr++ps)∧
   ∀ (l' u':Int) (tr':List (List (List Int))),0≤l'→(zB3 ps≤l'→m (0,(l',u',tr'))=((m (0,(l,u,tr))).1,(0,(l'-zB3 ps,u'+zB3 ps,tr'++ps))))∧(l' <zB3 ps→(m (0,(l',u',tr'))).2.1=7))∧
 ((m (0,(l,u,tr))).2.1≠0→(m (0,(l,u,tr))).2.1≠7→ ∀ (l' u':Int) (tr':List (List (List Int))),l≤l'→(m (0,(l',u',tr'))).2.1=(m (0,(l,u,tr))).2.1)
section
variable {α β:Type}
theorem Fu.still{m:WM Tk α}(a:α)(e:Int)(h: ∀ s,m (0,s)=(a,(e,s))):Fu m:=by
 intro l u tr hl
 rw[h]
 refine⟨fun q=>?_,fun q _ l' u' tr' _=>by rw[h]⟩
 have q:e=0:=q
 refine⟨[],by simp[zB3],by simpa[zB3]using hl,by simp[zB3],fun l' u' tr' h'=>?_⟩
 rw[h]
 exact⟨fun _=>by simp[zB3,q],fun hlt=>by simp[zB3]at hlt;omega⟩
theorem Fu.pure(a:α):Fu (zzZ a):=.still a 0 fun _=>rfl
theorem Fu.want(b:Bool)(er:Int):Fu (wantW b er):=by
 cases b
 ·exact .still false er fun s=>by unfold wantW;rw[if_pos ⟨rfl,rfl⟩]
 ·exact .still true 0 fun s=>by unfold wantW;rw[if_neg (fun q=>by cases q.2)];rfl
theorem Fu.bind{m:WM Tk α}{f:α→WM Tk β}(h1:Fu m)(h2: ∀ a,Fu (f a))(h3: ∀ a,Er (f a)):Fu (zyN m f):=by
 intro l u tr hl
 obtain⟨g1,g2⟩:=h1 l u tr hl
 have eb: ∀ w,zyN m f w=f (m w).1 (m w).2:=fun _=>rfl
 by_cases hz:(m (0,(l,u,tr))).2.1=0
 ·obtain⟨ps,p0,p1,p2,p3⟩:=g1 hz
  have e1:(m (0,(l,u,tr))).2=(0,(l-zB3 ps,u+zB3 ps,tr++ps)):=Prod.ext hz p2
  have e2:zyN m f (0,(l,u,tr))=f (m (0,(l,u,tr))).1 (0,(l-zB3 ps,u+zB3 ps,tr++ps)):=by rw[eb,e1]
  rw[e2]
  generalize (m (0,(l,u,tr))).1=a at p3⊢
  obtain⟨k1,k2⟩:=h2 a (l-zB3 ps) (u+zB3 ps) (tr++ps) (by omega)
  refine⟨fun q=>?_,fun q q7 l' u' tr' hle=>?_⟩
  ·obtain⟨qs,q0,q1,q2,q3⟩:=k1 q
   refine⟨ps++qs,by rw[zCg];omega,by rw[zCg];omega,by rw[q2,zCg,List.append_assoc];simp only[Prod.mk.injEq,and_true];omega,fun l' u' tr' hl'=>⟨fun hge=>?_,fun hlt=>?_⟩⟩
   ·rw[zCg]at hge
    rw[eb,(p3 l' u' tr' hl').1 (by omega)]
    simp only
    rw[(q3 (l'-zB3 ps) (u'+zB3 ps) (tr'++ps) (by omega)).1 (by omega),zCg,List.append_assoc]
    simp only[Prod.mk.injEq,true_and,and_true];omega
   ·rw[zCg]at hlt
    rw[eb]
    by_cases hc:zB3 ps≤l'
    ·rw[(p3 l' u' tr' hl').1 hc]
     exact(q3 (l'-zB3 ps) (u'+zB3 ps) (tr'++ps) (by omega)).2 (by omega)
    ·have h7:=(p3 l' u' tr' hl').2 (by omega)
     have:(m (0,(l',u',tr'))).2=(7,(m (0,(l',u',tr'))).2.2):=by rw[←h7]
     rw[this,h3 _ 7 _ (by omega)]
  ·rw[eb,(p3 l' u' tr' (by omega)).1 (by omega)]
   exact k2 q q7 (l'-zB3 ps) (u'+zB3 ps) (tr'++ps) (by omega)
 ·have stay: ∀ w:WS Tk,(m w).2.1≠0→(zyN m f w).2=(m w).2:=fun w hw=>by rw[eb];exact h3 _ (m w).2.1 (m w).2.2 hw
  rw[stay _ hz]
  refine⟨fun q=>absurd q hz,fun _ q7 l' u' tr' hle=>?_⟩
  have:=g2 hz q7 l' u' tr' hle
  rw[stay _ (by rw[this];exact hz),this]
theorem Fu.ok{z:α}{m:WM Tk α}(h:Fu m):Fu (okW z m):=by
 have: ∀ s:Tk,okW z m (0,s)=m (0,s):=fun s=>by unfold okW;rw[if_neg (by simp)]
 intro l u tr hl
 simp only[this]
 exact h l u tr hl
theorem Fu.got(r:Tm×Int):Fu (gotW r):=.bind (.want _ _) (fun _=>.pure _) fun _=>.pure _
theorem Fu.iff{b:Bool}{m k:WM Tk α}(h:Fu m)(h2:Fu k):Fu (if b=true then m else k):=by cases b <;>assumption
theorem Fu.ite{p:Prop}[Decidable p]{m k:WM Tk α}(h:Fu m)(h2:Fu k):Fu (if p then m else k):=by
 by_cases q:p
 ·rw[if_pos q];exact h
 ·rw[if_neg q];exact h2
theorem Fu.need{b:Bool}{er:Int}{m:WM Tk Tm}(h:Fu m)(he:Er m):Fu (zBh b er m):=.bind (.want _ _) (fun _=>.iff h (.pure _)) fun _=>.iff he (.pure _)
end
theorem zFH{lk:Tm→Option (Tm×Int)}: ∀ {n:Nat} {t:Tm} {ps:List (List Int)},(goN lk n t ps).2.2≠0→(goN lk n t ps).2.2≠7→ ∀ (k:Nat) (qs:List (List Int)),n≤k→(goN lk k t qs).2.2=(goN lk n t ps).2.2
 |0,t,ps,h,h7,k,qs,_=>by
  exfalso
  cases q:zc0 lk t with
  |none=>simp[goN,q]at h
  |some x=>simp[goN,q]at h7
 |n+1,t,ps,h,h7,k,qs,hk=>by
  obtain⟨k,rfl⟩: ∃ j,k=j+1:=⟨k-1,by omega⟩
  cases q:zc0 lk t with
  |none=>simp[goN,q]at h
  |some x=>
   by_cases hm:(makeR lk t x).2=0
   ·simp only[goN,q,hm,if_true]at h h7⊢
    exact zFH h h7 k _ (by omega)
   ·simp[goN,q,hm]
theorem Fu.burn{lk:Tm→Option (Tm×Int)}(t:Tm):Fu (normW (burnT lk) t):=by
 refine .ok ?_
 intro l u tr hl
 have hb: ∀ s:Tk,(fun w:WS Tk=>gotW ((burnT lk w.2 t).1,(burnT lk w.2 t).2.1) (w.1,(burnT lk w.2 t).2.2)) (0,s)=((burnT lk s t).1,((burnT lk s t).2.1,(burnT lk s t).2.2)):=by
  intro s
  simp only[gotW,zyN,wantW,zzZ]
  by_cases q:(burnT lk s t).2.1=0
  ·simp[q]
  ·simp[q]
 simp only[hb]
 by_cases hc:checkT t=0
 ·have hgo: ∀ x:Int,goR lk t x=goN lk (normM x) t []:=fun x=>by unfold goR;rw[if_neg (by omega)]
  have hbt: ∀ s:Tk,burnT lk s t=if(goN lk (normM s.1) t []).2.2≠0 then(zT,(goN lk (normM s.1) t []).2.2,s)else((goN lk (normM s.1) t []).1,0,(s.1-((goN lk (normM s.1) t []).2.1.length:Nat),s.2.1+((goN lk (normM s.1) t []).2.1.length:Nat),s.2.2++[(goN lk (normM s.1) t []).2.1])):=fun s=>by unfold burnT;rw[hgo]
  by_cases hz:(goN lk (normM l) t []).2.2=0
  ·obtain⟨p,e1,e2,e3⟩:=zxU (n:=normM l) (t:=t) (ps:=[]) (a:=(goN lk (normM l) t []).1) (qs:=(goN lk (normM l) t []).2.1) (by rw[←hz])
   rw[List.nil_append]at e1
   have hpl:(p.length:Int)≤l∧p.length≤4096:=by unfold normM at e2;omega
   have h0:burnT lk (l,u,tr) t=((goN lk (normM l) t []).1,0,(l-(p.length:Nat),u+(p.length:Nat),tr++[p])):=by rw[hbt,if_neg (by simp only;omega)];simp only[e1]
   rw[h0]
   refine⟨fun _=>⟨[p],by simp[zB3],by simp[zB3];omega,by simp[zB3],fun l' u' tr' hl'=>?_⟩,fun q=>absurd rfl q⟩
   have hch:=zyI e3 (normM l') []
   rw[show zB3 [p]=(p.length:Int) by simp[zB3]]
   refine⟨fun hge=>?_,fun hlt=>?_⟩
   ·have:=hch.1 (by unfold normM;omega)
    rw[List.nil_append]at this
    rw[hbt,if_neg (by simp only[this];omega)]
    simp only[this]
   ·have:=hch.2 (by unfold normM;omega)
    rw[hbt,if_pos (by simp only[this];omega)]
    simp only[this]
  ·have h0:burnT lk (l,u,tr) t=(zT,(goN lk (normM l) t []).2.2,(l,u,tr)):=by rw[hbt,if_pos hz]
   rw[h0]
   refine⟨fun q=>absurd q hz,fun _ q7 l' u' tr' hle=>?_⟩
   have:=zFH hz q7 (normM l') [] (by unfold normM;omega)
   rw[hbt,if_pos (by simp only[this];exact hz)]
   exact this
 ·have: ∀ s:Tk,burnT lk s t=(zT,checkT t,s):=fun s=>by
   have hg:goR lk t s.1=(zT,[],checkT t):=by unfold goR;rw[if_pos hc]
   unfold burnT;rw[hg,if_pos hc]
  simp only[this]
  exact⟨fun q=>absurd q hc,fun _ _ _ _ _ _=>trivial⟩
section
variable {lk:Tm→Option (Tm×Int)} {env:List En} {ty:List Tm→Tm→WM Tk Tm}
theorem Er.norm{σ:Type}(N:σ→Tm→Tm×Int×σ)(t:Tm):Er (normW N t):=.ok _ _
theorem Er.inst{σ:Type}(N:σ→Tm→Tm×Int×σ)(b a:Tm):Er (instW N b a):=.ok _ _
theorem Er.shift{σ:Type}(t:Tm)(b:Int):Er (σ:=σ) (zAz t b):=.ok _ _
theorem Er.right{σ:Type}(t:Tm):Er (σ:=σ) (zCm t):=.ok _ _
theorem Fu.shift(t:Tm)(b:Int):Fu (zAz t b):=.ok (.got _)
theorem Fu.right(t:Tm):Fu (zCm t):=.ok (.got _)
theorem Fu.inst(b a:Tm):Fu (instW (burnT lk) b a):=.ok (.bind (.got _) (fun _=>.burn _) fun _=>.norm _ _)
theorem Fu.level(hf: ∀ c t,Fu (ty c t))(c:List Tm)(a:Tm):Fu (zz4 ty c a):=.bind (hf c a) (fun _=>.bind (.want _ _) (fun _=>.pure _) fun _=>.pure _) fun _=>.bind (.want _ _) fun _=>.pure _
theorem Fu.of(hf: ∀ c t,Fu (ty c t))(c:List Tm)(a b:Tm):Fu (ofW ty c a b):=.bind (hf c a) (fun _=>.ok (.want _ _)) fun _=>.ok _ _
theorem Fu.behind(c:List Tm)(a:Tm):Fu (zBS c a):=.bind (.want _ _) (fun _=>.pure _) fun _=>.pure _
theorem Fu.sig(hf: ∀ c t,Fu (ty c t))(c:List Tm)(a:Tm){f:Tm→WM Tk Tm}(h2: ∀ s,Fu (f s))(h3: ∀ s,Er (f s)):Fu (zEZ ty c a f):=.bind (hf c a) (fun s=>.need (h2 s) (h3 s)) fun s=>.need (h3 s)
theorem Er.binder{σ:Type}{N:σ→Tm→Tm×Int×σ}{ty:List Tm→Tm→WM σ Tm}(he: ∀ c t,Er (ty c t))(c:List Tm)(t:Tm):Er (zCx N ty c t):=.bind (.level he _ _) fun _=>.bind (.norm _ _) fun _=>.bind (.behind _ _) fun _=>.bind (.level he _ _) fun _=>.pure _
theorem Fu.binder(hf: ∀ c t,Fu (ty c t))(he: ∀ c t,Er (ty c t))(c:List Tm)(t:Tm):Fu (zCx (burnT lk) ty c t):=
 .bind (.level hf _ _) (fun _=>.bind (.burn _) (fun _=>.bind (.behind _ _) (fun _=>.bind (.level hf _ _) (fun _=>.pure _) fun _=>.pure _) fun _=>.bind (.level he _ _) fun _=>.pure _)
  fun _=>.bind (.behind _ _) fun _=>.bind (.level he _ _) fun _=>.pure _) fun _=>.bind (.norm _ _) fun _=>.bind (.behind _ _) fun _=>.bind (.level he _ _) fun _=>.pure _
theorem Fu.lam(hf: ∀ c t,Fu (ty c t))(he: ∀ c t,Er (ty c t))(c:List Tm)(t:Tm):Fu (zFD (burnT lk) ty c t):=
 .bind (.level hf _ _) (fun _=>.bind (.burn _) (fun _=>.bind (.behind _ _) (fun _=>.bind (hf _ _) (fun _=>.right _) fun _=>.right _) fun _=>.bind (he _ _) fun _=>.right _)
  fun _=>.bind (.behind _ _) fun _=>.bind (he _ _) fun _=>.right _) fun _=>.bind (.norm _ _) fun _=>.bind (.behind _ _) fun _=>.bind (he _ _) fun _=>.right _
theorem Fu.app(hf: ∀ c t,Fu (ty c t))(he: ∀ c t,Er (ty c t))(c:List Tm)(t:Tm):Fu (appW (burnT lk) ty c t):=
 have e1: ∀ f:Tm,Er (σ:=Tk) (zyN (ofW ty c (kidT t 1) (kidT f 0)) fun ok=>if ok=true then instW (burnT lk) (kidT f 1) (kidT t 1)else zzZ zT):=fun _=>.bind (.of he _ _ _) fun _=>.iff (.inst _ _ _) (.pure _)
 .bind (hf _ _) (fun _=>.need (.bind (.of hf _ _ _) (fun _=>.iff (.inst _ _) (.pure _)) fun _=>.iff (.inst _ _ _) (.pure _)) (e1 _)) fun _=>.need (e1 _)
theorem Fu.pair(hf: ∀ c t,Fu (ty c t))(he: ∀ c t,Er (ty c t))(c:List Tm)(t:Tm):Fu (zE2 (burnT lk) ty c t):=
 have e0: ∀ s b x:Tm,Er (σ:=Tk) (zyN (wantW (decide (b=x)) 8) fun _=>zzZ s):=fun _ _ _=>.bind (.want _ _) fun _=>.pure _
 have e1: ∀ s b:Tm,Er (zyN (instW (burnT lk) (kidT s 1) (kidT t 1)) fun x=>zyN (wantW (decide (b=x)) 8) fun _=>zzZ s):=fun _ _=>.bind (.inst _ _ _) fun _=>e0 _ _ _
 have e2: ∀ s:Tm,Er (zyN (ty c (kidT t 2)) fun b=>zyN (instW (burnT lk) (kidT s 1) (kidT t 1)) fun x=>zyN (wantW (decide (b=x)) 8) fun _=>zzZ s):=fun _=>.bind (he _ _) fun _=>e1 _ _
 have e3: ∀ s:Tm,Er (zyN (ofW ty c (kidT t 1) (kidT s 0)) fun ok=>if ok=true then zyN (ty c (kidT t 2)) fun b=>zyN (instW (burnT lk) (kidT s 1) (kidT t 1)) fun x=>zyN (wantW (decide (b=x)) 8) fun _=>zzZ s else zzZ zT):=fun _=>.bind (.of he _ _ _) fun _=>.iff (e2 _) (.pure _)
 .bind (.level hf _ _) (fun _=>.bind (.burn _) (fun _=>.need (.bind (.of hf _ _ _) (fun _=>.iff (.bind (hf _ _) (fun _=>.bind (.inst _ _) (fun _=>.bind (.want _ _) (fun _=>.pure _) fun _=>.pure _) fun _=>e0 _ _ _) fun _=>e1 _ _) (.pure _)) fun _=>.iff (e2 _) (.pure _)) (e3 _)) fun _=>.need (e3 _)) fun _=>.bind (.norm _ _) fun _=>.need (e3 _)
theorem Fu.id(hf: ∀ c t,Fu (ty c t))(he: ∀ c t,Er (ty c t))(c:List Tm)(t:Tm):Fu (idW (burnT lk) ty c t):=
 .bind (.level hf _ _) (fun _=>.bind (.burn _) (fun _=>.bind (.of hf _ _ _) (fun _=>.bind (.of hf _ _ _) (fun _=>.pure _) fun _=>.pure _) fun _=>.bind (.of he _ _ _) fun _=>.pure _)
  fun _=>.bind (.of he _ _ _) fun _=>.bind (.of he _ _ _) fun _=>.pure _) fun _=>.bind (.norm _ _) fun _=>.bind (.of he _ _ _) fun _=>.bind (.of he _ _ _) fun _=>.pure _
theorem Fu.refl(hf: ∀ c t,Fu (ty c t))(he: ∀ c t,Er (ty c t))(c:List Tm)(t:Tm):Fu (zDr (burnT lk) ty c t):=
 .bind (.level hf _ _) (fun _=>.bind (.burn _) (fun _=>.bind (.of hf _ _ _) (fun _=>.bind (.burn _) (fun _=>.right _) fun _=>.right _) fun _=>.bind (.norm _ _) fun _=>.right _)
  fun _=>.bind (.of he _ _ _) fun _=>.bind (.norm _ _) fun _=>.right _) fun _=>.bind (.norm _ _) fun _=>.bind (.of he _ _ _) fun _=>.bind (.norm _ _) fun _=>.right _
section
attribute [local irreducible] zyN okW wantW zzZ normW instW zAz zCm zz4 ofW zBS zBh zEZ Fu Er
theorem Fu.jay(hf: ∀ c t,Fu (ty c t))(he: ∀ c t,Er (ty c t))(c:List Tm)(t:Tm):Fu (zGd (burnT lk) ty c t):=by
 unfold zGd
 repeat' first
  |exact hf _ _
  |exact he _ _
  |exact Fu.shift _ _
  |exact Er.shift _ _
  |exact Fu.burn _
  |exact Er.norm _ _
  |exact Fu.want _ _
  |exact Er.want _ _
  |refine Fu.ok ?_
  |exact Er.ok _ _
  |refine Fu.need ?_ ?_
  |refine Er.need ?_
  |refine Fu.bind ?_ (fun _=>?_) (fun _=>?_)
  |refine Er.bind ?_ (fun _=>?_)
end
theorem Fu.kind(hf: ∀ c t,Fu (ty c t))(he: ∀ c t,Er (ty c t))(c:List Tm)(t:Tm):Fu (zCt (burnT lk) env ty c t):=by
 unfold zCt
 repeat' refine Fu.ite ?_ ?_
 ·exact .need (.shift _ _) (.shift _ _)
 ·exact .bind (.want _ _) (fun _=>.pure _) fun _=>.pure _
 ·exact .need (.pure _) (.pure _)
 ·exact .binder hf he _ _
 ·exact .lam hf he _ _
 ·exact .app hf he _ _
 ·exact .binder hf he _ _
 ·exact .pair hf he _ _
 ·exact .sig hf _ _ (fun _=>.pure _) fun _=>.pure _
 ·exact .sig hf _ _ (fun _=>.inst _ _) fun _=>.inst _ _ _
 ·exact .id hf he _ _
 ·exact .refl hf he _ _
 ·exact .jay hf he _ _
theorem Fu.typ: ∀ n c t,Fu (typW (burnT lk) env n c t)
 |0,_,_=>.ok (.pure _)
 |n+1,c,t=>.ok (.kind (Fu.typ n) (Er.typ _ _ n) c t)
end
end Go.Proofs.YtokfbblhjpfjkaaGreat
