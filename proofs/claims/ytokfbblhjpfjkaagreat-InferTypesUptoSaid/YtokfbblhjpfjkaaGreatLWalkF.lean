/- The types of terms, kind by kind; a walk from its beginning. -/
import Derived.Test.YtokfbblhjpfjkaaGreatLWalkE
set_option linter.unusedSimpArgs false
set_option linter.unusedVariables false
namespace Go.Proofs.YtokfbblhjpfjkaaGreat
open Go.Aw Go.RowKit
def zEX:List (Nat×List Nat):=[(0,[]),(1,[]),(2,[1]),(3,[0,1,2]),(4,[]),(5,[]),(6,[]),(7,[0,1,2,3,4,5,6]),(8,[0,1,2,3,4,5,6,7])]
theorem zEP{t:Tm}(h:checkT t=0):t.kind=1∨t.kind=2∨t.kind=3∨t.kind=4∨t.kind=5∨t.kind=6∨t.kind=7∨t.kind=8∨t.kind=9∨t.kind=10∨t.kind=11∨t.kind=12∨t.kind=13:=by
 have hl:=zCE h
 unfold kidsR at hl
 repeat'(split at hl)
 all_goals omega
section
variable {σ α β:Type} {ok:σ→Prop} {cnt:σ→Nat}
theorem Co.bnd{m:WM σ α}{f:α→WM σ β}{j k:Nat}(h1:Co ok cnt m j)(h2: ∀ a,Co ok cnt (f a) k):Co ok cnt (zyN m f) (j+k):=Co.bind h1 h2 (Nat.le_refl _)
theorem Co.else{b:Bool}{m:WM σ Tm}{z:Tm}{j:Nat}(h:Co ok cnt m j):Co ok cnt (if b=true then m else zzZ z) j:=.iff h ((Co.pure _).weak (Nat.zero_le _))
variable {N:σ→Tm→Tm×Int×σ} {nf:AV} {tA tB:σ→Nat→AB} {tC:σ→AB} {env:List En} (hN:LN N nf tA tB tC ok cnt)
include hN
theorem zHp{ty:List Tm→Tm→WM σ Tm}{ctx:List Tm}{t:Tm}(hc:checkT t=0)(kid: ∀ c (i:Nat),(i:Int) <kidsR t.kind→Co ok cnt (ty c (kidT t i)) (4*(kidT t i).size)):Co ok cnt (zCt N env ty ctx t) (4*t.size):=by
 have hpos:=t.size_pos
 unfold zCt
 rcases zEP hc with k|k|k|k|k|k|k|k|k|k|k|k|k
 ·rw[if_pos k]
  exact(Co.need (Co.shift _ _)).weak (by omega)
 ·rw[if_neg (by omega),if_pos k]
  exact((Co.want _ _).bnd fun _=>Co.pure _).weak (by omega)
 ·rw[if_neg (by omega),if_neg (by omega),if_pos k]
  exact(Co.need (Co.pure _)).weak (by omega)
 ·rw[if_neg (by omega),if_neg (by omega),if_neg (by omega),if_pos k]
  have z:=zCD hc (by rw[k];decide)
  exact((Co.level (kid ctx 0 (by rw[k];decide))).bnd fun _=>(Co.norm hN _).bnd fun _=>(Co.behind _ _).bnd fun c=>(Co.level (kid c 1 (by rw[k];decide))).bnd fun _=>Co.pure _).weak (by omega)
 ·rw[if_neg (by omega),if_neg (by omega),if_neg (by omega),if_neg (by omega),if_pos k]
  have z:=zCD hc (by rw[k];decide)
  exact((Co.level (kid ctx 0 (by rw[k];decide))).bnd fun _=>(Co.norm hN _).bnd fun _=>(Co.behind _ _).bnd fun c=>(kid c 1 (by rw[k];decide)).bnd fun _=>Co.right _).weak (by omega)
 ·rw[if_neg (by omega),if_neg (by omega),if_neg (by omega),if_neg (by omega),if_neg (by omega),if_pos k]
  have z:=zCD hc (by rw[k];decide)
  exact((kid ctx 0 (by rw[k];decide)).bnd fun _=>Co.need ((Co.of (kid ctx 1 (by rw[k];decide))).bnd fun _=>Co.else (Co.inst hN _ _))).weak (by omega)
 ·rw[if_neg (by omega),if_neg (by omega),if_neg (by omega),if_neg (by omega),if_neg (by omega),if_neg (by omega),if_pos k]
  have z:=zCD hc (by rw[k];decide)
  exact((Co.level (kid ctx 0 (by rw[k];decide))).bnd fun _=>(Co.norm hN _).bnd fun _=>(Co.behind _ _).bnd fun c=>(Co.level (kid c 1 (by rw[k];decide))).bnd fun _=>Co.pure _).weak (by omega)
 ·rw[if_neg (by omega),if_neg (by omega),if_neg (by omega),if_neg (by omega),if_neg (by omega),if_neg (by omega),if_neg (by omega),if_pos k]
  have z:=zC4 hc (by rw[k];decide)
  exact((Co.level (kid ctx 0 (by rw[k];decide))).bnd fun _=>(Co.norm hN _).bnd fun _=>Co.need ((Co.of (kid ctx 1 (by rw[k];decide))).bnd fun _=>Co.else ((kid ctx 2 (by rw[k];decide)).bnd fun _=>(Co.inst hN _ _).bnd fun _=>(Co.want _ _).bnd fun _=>Co.pure _))).weak (by omega)
 ·rw[if_neg (by omega),if_neg (by omega),if_neg (by omega),if_neg (by omega),if_neg (by omega),if_neg (by omega),if_neg (by omega),if_neg (by omega),if_pos k]
  have z:=zDP hc (by rw[k];decide)
  exact((kid ctx 0 (by rw[k];decide)).bnd fun _=>Co.need (Co.pure _)).weak (by omega)
 ·rw[if_neg (by omega),if_neg (by omega),if_neg (by omega),if_neg (by omega),if_neg (by omega),if_neg (by omega),if_neg (by omega),if_neg (by omega),if_neg (by omega),if_pos k]
  have z:=zDP hc (by rw[k];decide)
  exact((kid ctx 0 (by rw[k];decide)).bnd fun _=>Co.need (Co.inst hN _ _)).weak (by omega)
 ·rw[if_neg (by omega),if_neg (by omega),if_neg (by omega),if_neg (by omega),if_neg (by omega),if_neg (by omega),if_neg (by omega),if_neg (by omega),if_neg (by omega),if_neg (by omega),if_pos k]
  have z:=zC4 hc (by rw[k];decide)
  exact((Co.level (kid ctx 0 (by rw[k];decide))).bnd fun _=>(Co.norm hN _).bnd fun _=>(Co.of (kid ctx 1 (by rw[k];decide))).bnd fun _=>(Co.of (kid ctx 2 (by rw[k];decide))).bnd fun _=>Co.pure _).weak (by omega)
 ·rw[if_neg (by omega),if_neg (by omega),if_neg (by omega),if_neg (by omega),if_neg (by omega),if_neg (by omega),if_neg (by omega),if_neg (by omega),if_neg (by omega),if_neg (by omega),if_neg (by omega),if_pos k]
  have z:=zCD hc (by rw[k];decide)
  exact((Co.level (kid ctx 0 (by rw[k];decide))).bnd fun _=>(Co.norm hN _).bnd fun _=>(Co.of (kid ctx 1 (by rw[k];decide))).bnd fun _=>(Co.norm hN _).bnd fun _=>Co.right _).weak (by omega)
 ·rw[if_neg (by omega),if_neg (by omega),if_neg (by omega),if_neg (by omega),if_neg (by omega),if_neg (by omega),if_neg (by omega),if_neg (by omega),if_neg (by omega),if_neg (by omega),if_neg (by omega),if_neg (by omega)]
  have z:=zC4 hc (by rw[k];decide)
  exact((kid ctx 2 (by rw[k];decide)).bnd fun _=>Co.need ((Co.shift _ _).bnd fun _=>(Co.shift _ _).bnd fun _=>(kid ctx 0 (by rw[k];decide)).bnd fun _=>Co.oks (Co.need ((kid ctx 1 (by rw[k];decide)).bnd fun _=>(Co.shift _ _).bnd fun _=>(Co.norm hN _).bnd fun _=>(Co.want _ _).bnd fun _=>Co.norm hN _)))).weak (by omega)
theorem zGf: ∀ (n:Nat) (ctx:List Tm) (t:Tm),checkT t=0→t.size≤n→Co ok cnt (typW N env n ctx t) (4*t.size)
 |0,_,t,_,h=>by have:=t.size_pos;omega
 |n+1,ctx,t,hc,h=>Co.oks (zHp hN hc fun c i hi=>zGf n c _ (zzT hc hi) (zCk hc hi h))
end
def tyK:Ty:=fun t=>match Nat.beq t 150 with
 |true=>some ⟨14,112,.array 14 149,[.nilf,.nilf,.nilf,.nilf,.nilf,.nilf,.nilf,.nilf,.nilf,.nilf,.nilf,.nilf,.nilf,.nilf],[]⟩
 |false=>ty t
theorem htyK:TyOK Tryz.prog tyK:=by
 intro t i h
 unfold tyK at h
 split at h
 ·rename_i e
  obtain rfl:=Option.some.inj h
  rw[Nat.eq_of_beq_eq_true e];kernel_rfl
 ·exact hty t i h
abbrev fnV(f:Nat):AV:=.fn (.func f) [] []
def zHj:List AV:=[.nilf,fnV 178,fnV 179,fnV 180,fnV 181,fnV 182,fnV 183,fnV 181,
 fnV 184,fnV 185,fnV 186,fnV 187,fnV 188,fnV 189]
attribute [local irreducible] WL AC WD WE MStep OkOp
theorem zGc:FC Tryz.prog 139 [] (.agg zHj):=by
 refine zo htyK Tryz.func139 rfl rfl rfl fun w0=>?_
 repeat'(first|refine WL_p htyK rfl rfl ?_|refine WL_m rfl (zG6 htyK rfl rfl rfl rfl rfl rfl) ?_|refine zh ?_|refine zi ?_|refine za ?_|refine zg ?_)
 exact zH rfl rfl (.refl _)
section
variable {σ:Type} {N:σ→Tm→Tm×Int×σ} {nf:AV} {tA tB:σ→Nat→AB} {tC:σ→AB} {ok:σ→Prop} {cnt:σ→Nat} {env:List En} (hN:LN N nf tA tB tC ok cnt)
include hN
set_option maxHeartbeats 2000000 in
theorem zCe{f:Nat}{ctx:List Tm}{t:Tm}{s:σ}{r:Tm×WS σ}(h0:0≤t.kind)(h1:t.kind <14)(hv:zHj[t.kind.toNat]? =some (fnV f))(hm:MV Tryz.prog 2 f [.ptr 3 0,sT ctx,aT t] (KS nf tA tB tC env (0,s)) (aT r.1) (KS nf tA tB tC env r.2)):
 MV Tryz.prog 2 99 [.ptr 3 0,sT ctx,aT t] (KS nf tA tB tC env (0,s)) (aT r.1) (KS nf tA tB tC env r.2):=by
 have hks:=zGc
 refine zzj hN Tryz.func99 rfl rfl rfl fun w0 B0 B1 B3=>?_
 repeat'(first|exact absurd rfl ‹_›|refine zD (id:=3) zEX rfl (by kernel_rfl) ?_|refine zad 0 rfl hks rfl rfl rfl ?_|refine zbc rfl (zG7 htyK (i:=⟨14,112,.array 14 149,[.nilf,.nilf,.nilf,.nilf,.nilf,.nilf,.nilf,.nilf,.nilf,.nilf,.nilf,.nilf,.nilf,.nilf],[]⟩) rfl rfl rfl rfl rfl rfl rfl h0 h1 hv rfl) ?_|refine zbc rfl (zHi hN 0 1020 hm rfl rfl rfl rfl rfl rfl rfl rfl rfl) ?_|refine zu (.inl ⟨rfl,zI hty rfl rfl⟩) ?_|refine zS ⟨by kernel_rfl,?_⟩|refine WL_p hty rfl rfl ?_|refine zh ?_|refine zi ?_|refine za ?_|refine zxg ?_|refine zbZ rfl ?_|refine zg ?_|refine zj rfl rfl rfl rfl (fun _=>?_) (fun _=>?_))
 exact zAU 1018 rfl rfl rfl rfl rfl rfl rfl (.refl _)
theorem zGG(hK:NK N)(hE: ∀ e,e∈env→C0 e.typ): ∀ (n:Nat) (ctx:List Tm) (t:Tm) (w:WS σ),t.size≤n→(w.1=0→checkT t=0∧(∀ x,x∈ctx→C0 x)∧ctx.length≤40∧ok w.2∧cnt w.2+4*t.size≤4000000)→
 MV Tryz.prog 2 99 [.ptr 3 0,sT ctx,aT t] (KS nf tA tB tC env w) (aT (typW N env n ctx t w).1) (KS nf tA tB tC env (typW N env n ctx t w).2):=by
 intro n
 induction n with
 |zero=>intro ctx t w h;have:=t.size_pos;omega
 |succ n ih=>
 intro ctx t w hn hw
 obtain⟨e,s⟩:=w
 by_cases h0:e=0
 case neg=>
  rw[show typW N env (n+1) ctx t (e,s)=(zT,(e,s)) by unfold typW okW;rw[if_pos h0]]
  refine zzj hN Tryz.func99 rfl rfl rfl fun w0 B0 B1 B3=>?_
  repeat'(first|exact absurd h0 (by assumption)|refine WL_p hty rfl rfl ?_|refine zh ?_|refine zi ?_|refine za ?_|refine zd rfl ?_|refine zg ?_|refine zj rfl rfl rfl rfl (fun _=>?_) (fun _=>?_))
  exact zAU 0 rfl rfl rfl rfl rfl rfl rfl (zCj _)
 subst h0
 obtain⟨hc,hx,hl,ho,hcn⟩:=hw rfl
 rw[show typW N env (n+1) ctx t ((0:Int),s)=zCt N env (typW N env n) ctx t (0,s)from rfl]
 have kt:KT N nf tA tB tC ok cnt env (typW N env n) t:={
  mv:=fun c i w hi hq=>ih c (kidT t i) w (zCk hc hi hn) fun q=>⟨zzT hc hi,hq q⟩
  er:=fun c u=>Er.typ N env n c u
  co:=fun c i hi=>zGf hN n c _ (zzT hc hi) (zCk hc hi hn)
  po:=fun c i hi hq=>Po.typ hK hE n c _ (zCk hc hi hn) hq (zzT hc hi)
  sz:=fun c i w hi hq=>zDX hK hE n c _ w (zCk hc hi hn) hq (zzT hc hi)}
 generalize typW N env n=ty at kt⊢
 unfold zCt
 rcases zEP hc with k|k|k|k|k|k|k|k|k|k|k|k|k
 ·rw[if_pos k]
  exact zCe hN (by omega) (by omega) (by rw[k];rfl) (zGF hN hc k hx hl)
 ·rw[if_neg (by omega),if_pos k]
  exact zCe hN (by omega) (by omega) (by rw[k];rfl) (zF3 hN hc k)
 ·rw[if_neg (by omega),if_neg (by omega),if_pos k]
  exact zCe hN (by omega) (by omega) (by rw[k];rfl) (zFS hN hc k)
 ·rw[if_neg (by omega),if_neg (by omega),if_neg (by omega),if_pos k]
  exact zCe hN (by omega) (by omega) (by rw[k];rfl) (zDC hN hK kt hc hx hl ho hcn (.inl k))
 ·rw[if_neg (by omega),if_neg (by omega),if_neg (by omega),if_neg (by omega),if_pos k]
  exact zCe hN (by omega) (by omega) (by rw[k];rfl) (zGS hN hK kt hc hx hl ho hcn k)
 ·rw[if_neg (by omega),if_neg (by omega),if_neg (by omega),if_neg (by omega),if_neg (by omega),if_pos k]
  exact zCe hN (by omega) (by omega) (by rw[k];rfl) (zGv hN hK kt hc hx hl ho hcn k)
 ·rw[if_neg (by omega),if_neg (by omega),if_neg (by omega),if_neg (by omega),if_neg (by omega),if_neg (by omega),if_pos k]
  exact zCe hN (by omega) (by omega) (by rw[k];rfl) (zDC hN hK kt hc hx hl ho hcn (.inr k))
 ·rw[if_neg (by omega),if_neg (by omega),if_neg (by omega),if_neg (by omega),if_neg (by omega),if_neg (by omega),if_neg (by omega),if_pos k]
  exact zCe hN (by omega) (by omega) (by rw[k];rfl) (zGi hN hK kt hc hx hl ho hcn k)
 ·rw[if_neg (by omega),if_neg (by omega),if_neg (by omega),if_neg (by omega),if_neg (by omega),if_neg (by omega),if_neg (by omega),if_neg (by omega),if_pos k]
  exact zCe hN (by omega) (by omega) (by rw[k];rfl) (zGO hN hK kt hc hx hl ho hcn k)
 ·rw[if_neg (by omega),if_neg (by omega),if_neg (by omega),if_neg (by omega),if_neg (by omega),if_neg (by omega),if_neg (by omega),if_neg (by omega),if_neg (by omega),if_pos k]
  exact zCe hN (by omega) (by omega) (by rw[k];rfl) (zGQ hN hK kt hc hx hl ho hcn k)
 ·rw[if_neg (by omega),if_neg (by omega),if_neg (by omega),if_neg (by omega),if_neg (by omega),if_neg (by omega),if_neg (by omega),if_neg (by omega),if_neg (by omega),if_neg (by omega),if_pos k]
  exact zCe hN (by omega) (by omega) (by rw[k];rfl) (zG0 hN hK kt hc hx hl ho hcn k)
 ·rw[if_neg (by omega),if_neg (by omega),if_neg (by omega),if_neg (by omega),if_neg (by omega),if_neg (by omega),if_neg (by omega),if_neg (by omega),if_neg (by omega),if_neg (by omega),if_neg (by omega),if_pos k]
  exact zCe hN (by omega) (by omega) (by rw[k];rfl) (zF8 hN hK kt hc hx hl ho hcn k)
 ·rw[if_neg (by omega),if_neg (by omega),if_neg (by omega),if_neg (by omega),if_neg (by omega),if_neg (by omega),if_neg (by omega),if_neg (by omega),if_neg (by omega),if_neg (by omega),if_neg (by omega),if_neg (by omega)]
  exact zCe hN (by omega) (by omega) (by rw[k];rfl) (zGH hN hK kt hc hx hl ho hcn k)
end
end Go.Proofs.YtokfbblhjpfjkaaGreat
