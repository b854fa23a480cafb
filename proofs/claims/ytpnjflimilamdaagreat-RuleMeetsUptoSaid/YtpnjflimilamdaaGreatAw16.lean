/-
  Contracts with what a call needs of its function; calls as effects; what is handed back seen as rows; states that say less.
-/
import Derived.Test.YtpnjflimilamdaaGreatAw15
namespace Go.Aw
open Go.RowKit

section
variable {P : Program} {ty : Ty} {w0 : B0} {nt : Nat} {s s' : AS} {ops : Array Oper} {l : List Oper} {o : Oper} {K : AS → Prop} {C : Exit → AS → Prop} {d : Option Nat} {t : TypeId} {pos : String} {af : Array Edge} {g : Option (Nat × Bool)}

/-- The contract, with what a call needs of the function. -/
structure FC (P : Program) (f : Nat) (args : List AV) (res : AV) : Prop where
  pc : PC P f args res
  fn : ∃ fn, P.funcs[f]? = some fn ∧ fn.body.isNone = false ∧ (fn.name == "runtime.NumGoroutine") = false

theorem FC.args {f : Nat} {xs ys : List AV} {res : AV} (h : FC P f ys res) (hw : Wks xs ys) : FC P f xs res := ⟨h.pc.args hw, h.fn⟩

def thaw1E (id : Nat) : AV → Option (AV × List (Nat × AB))
  | .own e es rows wr => some (.arr id, [(id, .arr e es rows wr)])
  | x => match closedV x with
    | true => some (x, [])
    | false => none

def thawLE (id : Nat) : List AV → Option (List AV × List (Nat × AB))
  | [] => some ([], [])
  | x :: l => match thaw1E id x with
    | some (y, b1) => match thawLE (id + 1000) l with
      | some (ys, b2) => some (y :: ys, b1 ++ b2)
      | none => none
    | none => none

def thawE (id : Nat) : AV → Option (AV × List (Nat × AB))
  | .tup xs => match thawLE id xs with
    | some (ys, bs) => some (.tup ys, bs)
    | none => none
  | x => thaw1E id x

theorem setBs_append (b : Bk) : ∀ (l r : List (Nat × AB)), setBs b (l ++ r) = setBs (setBs b l) r
  | [], r => rfl
  | (i, k) :: l, r => by simp only [List.cons_append, setBs]; exact setBs_append _ l r

theorem setBs_other {b : Bk} {i : Nat} : ∀ {l : List (Nat × AB)}, (∀ p ∈ l, p.1 ≠ i) → setBs b l i = b i
  | [], _ => rfl
  | (j, k) :: l, h => by
    simp only [setBs]
    rw [setBs_other (fun p hp => h p (List.mem_cons_of_mem _ hp)), upd_other]
    exact fun e => h (j, k) List.mem_cons_self e.symm

theorem thaw1E_ok {id : Nat} {blk : Bk} {x y : AV} {bs : List (Nat × AB)} (h : thaw1E id x = some (y, bs)) (hn : ∀ p ∈ bs, blk p.1 = none) : thaw1 id blk x = some (y, setBs blk bs) ∧ ∀ p ∈ bs, p.1 = id := by
  by_cases e : isOwn x = true
  · cases x <;> simp [isOwn] at e
    simp only [thaw1E, Option.some.injEq, Prod.mk.injEq] at h
    obtain ⟨rfl, rfl⟩ := h
    refine ⟨?_, fun p hp => by rw [List.mem_singleton.1 hp]⟩
    simp only [thaw1, hn (_, _) (List.mem_singleton.2 rfl)]
    rfl
  · have e' : isOwn x = false := by simpa using e
    have hx : closedV x = true ∧ y = x ∧ bs = [] := by
      cases x <;> simp only [thaw1E] at h <;> first
        | (simp [isOwn] at e'; done)
        | (split at h
           · obtain ⟨rfl, rfl⟩ := Prod.mk.inj (Option.some.inj h); exact ⟨by assumption, rfl, rfl⟩
           · cases h)
    obtain ⟨hc, rfl, rfl⟩ := hx
    refine ⟨?_, fun p hp => by cases hp⟩
    cases y <;> first | (simp [isOwn] at e'; done) | (simp only [thaw1, hc]; rfl)

theorem thawLE_ok : ∀ {xs : List AV} {id : Nat} {blk : Bk} {ys : List AV} {bs : List (Nat × AB)}, thawLE id xs = some (ys, bs) → (∀ p ∈ bs, blk p.1 = none) → thawL id blk xs = some (ys, setBs blk bs) ∧ ∀ p ∈ bs, id ≤ p.1
  | [], id, blk, ys, bs, h, _ => by
    obtain ⟨rfl, rfl⟩ := Prod.mk.inj (Option.some.inj h)
    exact ⟨rfl, fun p hp => by cases hp⟩
  | x :: l, id, blk, ys, bs, h, hn => by
    simp only [thawLE] at h
    split at h
    · rename_i y b1 e1
      split at h
      · rename_i ys2 b2 e2
        obtain ⟨rfl, rfl⟩ := Prod.mk.inj (Option.some.inj h)
        obtain ⟨h1, h2⟩ := thaw1E_ok (blk := blk) e1 (fun p hp => hn p (List.mem_append_left _ hp))
        have hid : ∀ p ∈ b2, id + 1000 ≤ p.1 := (thawLE_ok (blk := fun _ => none) e2 (fun _ _ => rfl)).2
        obtain ⟨h3, h4⟩ := thawLE_ok (blk := setBs blk b1) e2 (fun p hp => by
          rw [setBs_other (fun q hq e => by have := h2 q hq; have := hid p hp; omega)]
          exact hn p (List.mem_append_right _ hp))
        refine ⟨?_, fun p hp => ?_⟩
        · simp only [thawL, h1, h3, setBs_append]
        · rcases List.mem_append.1 hp with q | q
          · have := h2 p q; omega
          · have := h4 p q; omega
      · cases h
    · cases h

theorem thawE_ok {id : Nat} {blk : Bk} {x y : AV} {bs : List (Nat × AB)} (h : thawE id x = some (y, bs)) (hn : ∀ p ∈ bs, blk p.1 = none) : thaw id blk x = some (y, setBs blk bs) := by
  by_cases e : ∃ xs, x = .tup xs
  · obtain ⟨xs, rfl⟩ := e
    simp only [thawE] at h
    split at h
    · rename_i ys b2 e1
      obtain ⟨rfl, rfl⟩ := Prod.mk.inj (Option.some.inj h)
      simp only [thaw, (thawLE_ok e1 hn).1]
    · cases h
  · have h' : thaw1E id x = some (y, bs) := by cases x <;> first | exact h | exact absurd ⟨_, rfl⟩ e
    have := (thaw1E_ok h' hn).1
    cases x <;> first | exact this | exact absurd ⟨_, rfl⟩ e

theorem m_call {f : Nat} {ops : Array Operand} {ts : Array TypeId} {xs : List AV} {res : AV} {e : Ef} (id : Nat) (ha : evArgs s ops.toList = some xs) (hc : FC P f xs res) (ht : thawE id res = some e)
    (hid : e.2.all (fun p => (s.blk p.1).isNone) = true) (hd : dOK nt d = true) : MStep P w0 nt ⟨d, .call { callee := .value (.func f), args := ops, argTypes := ts }, t, pos, af, g⟩ s e.1 e.2 := by
  intro t2 hle hfr
  obtain ⟨fn, h1, h2, h3⟩ := hc.fn
  have hn : ∀ p ∈ e.2, t2.blk p.1 = none := fun p hp => hfr p hp (by
    have := List.all_eq_true.1 hid p hp
    cases q : s.blk p.1 with
    | none => rfl
    | some k => simp [q] at this)
  exact ok_call id h1 h2 h3 (evArgs_mono hle ha) hc.pc (thawE_ok ht hn) hd

theorem WL_call {f : Nat} {as : Array Operand} {ts : Array TypeId} {xs : List AV} {res : AV} {e : Ef} (id : Nat) (ha : evArgs s as.toList = some xs) (hc : FC P f xs res) (ht : thawE id res = some e)
    (hid : e.2.all (fun p => (s.blk p.1).isNone) = true) (hd : dOK nt d = true) (r : WL P w0 nt ops l (s.eff d e.1 e.2) K) : WL P w0 nt ops (⟨d, .call { callee := .value (.func f), args := as, argTypes := ts }, t, pos, af, none⟩ :: l) s K :=
  WL_m rfl (m_call id ha hc ht hid hd) r

/-- A call that hands back a word: the walk parts. -/
theorem WL_callB {f : Nat} {as : Array Operand} {ts : Array TypeId} {xs : List AV} {b : Bool} (ha : evArgs s as.toList = some xs) (hc : FC P f xs (.bool b)) (hd : dOK nt d = true)
    (h1 : b = true → WL P w0 nt ops l (s.put d (.bool true)) K) (h2 : b = false → WL P w0 nt ops l (s.put d (.bool false)) K) : WL P w0 nt ops (⟨d, .call { callee := .value (.func f), args := as, argTypes := ts }, t, pos, af, none⟩ :: l) s K := by
  refine WL_call 0 ha hc rfl rfl hd ?_
  cases b
  · exact h2 rfl
  · exact h1 rfl

/-! what is handed back, seen as rows -/
def argVs (blk : Bk) : List AV → Option (List AV)
  | [] => some []
  | x :: l => match argV blk x, argVs blk l with
    | some y, some r => some (y :: r)
    | _, _ => none

def packL (blk : Bk) : List AV → Option AV
  | [x] => argV blk x
  | l => (argVs blk l).map .tup

theorem argVs_ok {w : World} {β : Bt} {S : St} {blk : Bk} (h : HR w0 β S blk w) : ∀ {xs ys : List AV} {cv : Nat → Value}, argVs blk xs = some ys → (∀ j, j < xs.length → VR β S w (cv j) (xs.getD j .any)) →
    ys.length = xs.length ∧ ∀ j, j < ys.length → VR nb S w (cv j) (ys.getD j .any)
  | [], ys, cv, ha, _ => by obtain rfl := Option.some.inj ha; exact ⟨rfl, fun j hj => by simp at hj⟩
  | x :: l, ys, cv, ha, hv => by
    simp only [argVs] at ha
    split at ha
    · rename_i y r e1 e2
      obtain rfl := Option.some.inj ha
      obtain ⟨q1, q2⟩ := argVs_ok h (cv := fun j => cv (j + 1)) e2 (fun j hj => by simpa using hv (j + 1) (by simpa using hj))
      refine ⟨by simp [q1], fun j hj => ?_⟩
      cases j with
      | zero => simpa using argV_ok h (hv 0 (by simp)) e1
      | succ j => simpa using q2 j (by simpa using hj)
    · cases ha

theorem vr_rv {S : St} {w w' : World} {v : Value} {x : AV} (h : VR nb S w' v x) : RV S w w' v x := by
  cases x with
  | tup xs =>
    cases h with
    | tup cs _ h1 h3 => exact ⟨cs, fun _ => 0, rfl, h1, fun j hj => vr_rv1 (h3 j hj), fun i j hij hj oi _ => absurd (vr_notOwn (h3 i (Nat.lt_trans hij hj))) (by rw [oi]; decide)⟩
  | own => cases h
  | _ => exact ⟨0, h⟩

theorem packL_ok {w : World} {β : Bt} {S : St} {blk : Bk} (h : HR w0 β S blk w) {vs : List AV} {us : List Value} {res0 res : AV} (hl : us.length = vs.length) (hv : ∀ j, j < vs.length → VR β S w (us.getD j undef) (vs.getD j .any))
    (hp : packL blk vs = some res0) (hw : Wk res0 res) : RV S w0.w w (if h : us.toArray.size = 1 then us.toArray[0] else .tuple us.toArray) res := by
  have multi : (∀ x, vs ≠ [x]) → RV S w0.w w (.tuple us.toArray) res := by
    intro hne
    have hp' : ∃ ys, argVs blk vs = some ys ∧ res0 = .tup ys := by
      match vs, hp, hne with
      | [], hp, _ => exact ⟨[], rfl, (Option.some.inj hp).symm⟩
      | [x], _, hne => exact absurd rfl (hne x)
      | x :: y :: l, hp, _ =>
        simp only [packL] at hp
        obtain ⟨ys, h1, h2⟩ := Option.map_eq_some_iff.1 hp
        exact ⟨ys, h1, h2.symm⟩
    obtain ⟨ys, h1, rfl⟩ := hp'
    obtain ⟨q1, q2⟩ := argVs_ok h (cv := fun j => us.getD j undef) h1 hv
    exact vr_rv (hw.ok (.tup us.toArray ys (by simp [hl, q1]) (fun j hj => by have := q2 j hj; rw [← getD_toList, List.toList_toArray]; exact this)))
  by_cases hone : ∃ x, vs = [x]
  · obtain ⟨x, rfl⟩ := hone
    match us, hl with
    | [u], _ =>
      have hu : VR β S w u x := by simpa using hv 0 (by simp)
      simpa using vr_rv (w := w0.w) (hw.ok (argV_ok h hu (show argV blk x = some res0 from hp)))
  · have hne : ¬ us.toArray.size = 1 := by
      intro e
      have hlen : vs.length = 1 := by rw [← hl]; simpa using e
      obtain ⟨x, hx⟩ := List.length_eq_one_iff.1 hlen
      exact hone ⟨x, hx⟩
    rw [dif_neg hne]
    exact multi (fun x e => hone ⟨x, e⟩)

/-- What the body's end must say. -/
def EndsAs (ty : Ty) (rs : List ResultVar) (res : AV) (e : Exit) (s' : AS) : Prop :=
  (e = .ret ∨ e = .normal) ∧ ∃ s2, Less s' s2 ∧ ∃ vs, resL ty s2 rs = some vs ∧ ((∃ x, packL s2.blk vs = some x ∧ Wk x res) ∨ packR s2.blk vs = some res)

theorem ends_wk {rs : List ResultVar} {vs : List AV} {x res : AV} (h : resL ty s' rs = some vs) (hp : packL s'.blk vs = some x) (hx : Wk x res) : EndsAs ty rs res .ret s' := ⟨.inl rfl, _, .refl _, vs, h, .inl ⟨x, hp, hx⟩⟩
theorem ends_is {rs : List ResultVar} {vs : List AV} {x res : AV} (h : resL ty s' rs = some vs) (hp : packL s'.blk vs = some x) (hx : x = res) : EndsAs ty rs res .ret s' := ends_wk h hp (by rw [hx]; exact .refl _)
theorem ends_own {rs : List ResultVar} {vs : List AV} {x res : AV} (h : resL ty s' rs = some vs) (hp : packR s'.blk vs = some x) (hx : x = res) : EndsAs ty rs res .ret s' := ⟨.inl rfl, _, .refl _, vs, h, .inr (by rw [hp, hx])⟩
theorem ends_less {rs : List ResultVar} {res : AV} {s2 : AS} {e : Exit} (h : Less s' s2) (k : EndsAs ty rs res e s2) : EndsAs ty rs res e s' := ⟨k.1, k.2.choose, h.trans k.2.choose_spec.1, k.2.choose_spec.2⟩
theorem ends_bool {rs : List ResultVar} {b c : Bool} (h : resL ty s' rs = some [.bool b]) (hb : b = c) : EndsAs ty rs (.bool c) .ret s' := ends_is h rfl (by rw [hb])
theorem ends_int {rs : List ResultVar} {k : IntKind} {b c : Int} (h : resL ty s' rs = some [.int k b]) (hb : b = c) : EndsAs ty rs (.int k c) .ret s' := ends_is h rfl (by rw [hb])

theorem FC_intro (hty : TyOK P ty) {f : Nat} {fn : Func} {c : Code} {args : List AV} {res : AV} (hf : P.funcs[f]? = some fn) (hb : fn.body = some c) (hname : (fn.name == "runtime.NumGoroutine") = false) (hn : Nat.ble args.length fn.ntmps = true)
    (h : ∀ w0 : B0, AC P w0 fn.ntmps c ⟨fun t => args[t]?, fun _ => none⟩ (EndsAs ty fn.results.toList res)) : FC P f args res := by
  refine ⟨?_, fn, hf, by rw [hb]; rfl, hname⟩
  intro w S0 ca hS hsz hca
  have hn := Nat.le_of_ble_eq_true hn
  refine calls_of_wp hf hb (h ⟨w, S0, (· < w.heap.size), fun _ h => h⟩ nb S0 _ _ _ ⟨⟨fun id k q => (by cases q), fun id bi q => (by cases q), fun i j bi bj ki kj _ q => (by cases q), fun b o q => q, fun b o q _ => q, hS, BelowP.refl _ _⟩, ?_, ?_, rfl⟩ ?_)
  · intro t x hx
    have hlt : t < args.length := (List.getElem?_eq_some_iff.1 hx).1
    have := hca t hlt
    have hx' : args[t]? = some x := hx
    have e1 : args.getD t .any = x := by rw [List.getD_eq_getElem?_getD, hx']; rfl
    have e2 : (ca ++ Array.replicate (fn.ntmps - ca.size) undef).getD t undef = ca.getD t undef := by
      simp only [Array.getD_eq_getD_getElem?]
      rw [Array.getElem?_append_left (by omega)]
    rw [e1] at this
    simp only [e2]
    exact this
  · simp only [Array.size_append, Array.size_replicate]; omega
  · intro e β' S' a' w' s' hk hs'
    obtain ⟨he, s2, hl2, vs, h1, h2⟩ := hk
    obtain ⟨β', S', hs'⟩ := hl2 _ _ _ _ _ _ hs'
    obtain ⟨us, h3, h4, h5⟩ := resL_ok hty hs' h1
    have hres : (results fn a'.tmps).run P w' = .ok (if h : us.toArray.size = 1 then us.toArray[0] else .tuple us.toArray) w' := by
      rw [results_eq, Array.mapM_eq_mapM_toList]
      simp only [Sem.run_bind, Sem.run_map, h3, Result.andThen_ok, Sem.run_pure]
    have hpost : a'.defers = [] ∧ ∃ v, (results fn a'.tmps).run P w' = .ok v w' ∧ ∃ v2 S2, Ending.returned v = Ending.returned v2 ∧ Below w.heap.size w w' ∧ (∀ b o, S0 b o → S2 b o) ∧ (∀ b o, S2 b o → b < w.heap.size → S0 b o) ∧ (∀ b o, S2 b o → b < w'.heap.size) ∧ RV S2 w w' v2 res :=
      ⟨hs'.hdefers, _, hres, _, S', rfl, hs'.hh.hbelow.below, hs'.hh.hold, hs'.hh.hnew, hs'.hh.hlt, by
        rcases h2 with h2 | h2
        · obtain ⟨x, h2, h6⟩ := h2
          exact packL_ok hs'.hh h4 h5 h2 h6
        · exact packR_ok (fun b hb => Nat.le_of_not_lt hb) hs'.hh h4 h5 h2⟩
    rcases he with rfl | rfl
    · exact hpost
    · exact hpost

/-! own rows are written no more -/
theorem less_freeze (id : Nat) {e es : Nat} {rows : List (List AV)} {wr : Bool} {pin : Option BI} (hk : s.blk id = some (.ar pin e es rows wr)) : Less s (s.setB id (.ar pin e es rows false)) := by
  intro w0 nt β S a w hs
  obtain ⟨bi, hbi, _⟩ := hs.hh.hblk id _ hk
  obtain ⟨S', h1, h2, _⟩ := hs.hh.freeze hk hbi
  exact ⟨β, S', h1, fun t x q => h2 (hs.henv t x q), hs.hsize, hs.hdefers⟩

/-- A box is written no more. -/
theorem less_freezeBox (id : Nat) {pin : Option BI} {cells cells' : List AV} (hk : s.blk id = some (.bx pin cells)) (hc : argSs s.blk cells = some cells') : Less s (s.setB id (.rob cells')) := by
  intro w0 nt β S a w hs
  obtain ⟨bi, hbi, hbr, _⟩ := hs.hh.hblk id _ hk
  obtain ⟨cs, t, h1, h2, h3, h4⟩ := hbr
  obtain ⟨q1, q2⟩ := argSs_ok hs.hh (cv := fun j => cs.getD j undef) hc (fun j hj => by
    have := (h3 j hj).1
    rwa [Nat.zero_add] at this)
  obtain ⟨r1, r2⟩ := hs.hh.turn (k' := .rob cells') (S' := fun b o => S b o ∨ (b = bi.b ∧ o < cells.length)) hk rfl hbi
    (fun b o => ⟨fun q => q.elim .inl (fun q => .inr ⟨q.1, .inr q⟩), fun q => q.elim .inl (fun q => q.2)⟩) (fun _ j hj => by
      have hj2 : j < cells.length := by omega
      have hsz : j < cs.size := by omega
      refine ⟨.inr ⟨rfl, hj2⟩, cs.getD j undef, by simp [World.cell?, h1, Array.getD, hsz], ?_, (q2 j hj).mono (fun _ _ q => q) (fun b o q => ⟨.inl q, rfl⟩)⟩
      have := (h3 j hj2).2
      rwa [Nat.zero_add] at this)
  exact ⟨β, _, r1, fun t x q => r2 (hs.henv t x q), hs.hsize, hs.hdefers⟩

/-! which blocks a value names -/
def keepS (ids : List Nat) : AV → Bool
  | .ptr id _ => ids.any (Nat.beq id)
  | .arr id => ids.any (Nat.beq id)
  | .aptr id _ _ => ids.any (Nat.beq id)
  | x => closedS x
def keepV (ids : List Nat) : AV → Bool
  | .agg cs => cs.all (keepS ids)
  | .tup vs => vs.all closedA
  | x => keepS ids x

def cutB (β : Bt) (ids : List Nat) : Bt := fun i => match ids.any (Nat.beq i) with
  | true => β i
  | false => none

theorem keepS_ok {β : Bt} {S : St} {w : World} {ids : List Nat} {v : Value} {x : AV} (hk : keepS ids x = true) (h : VR β S w v x) : VR (cutB β ids) S w v x := by
  cases h with
  | ptr id off bi hb => exact .ptr id off bi (by simp only [cutB]; rw [show ids.any (Nat.beq id) = true from hk]; exact hb)
  | arr id bi hb => exact .arr id bi (by simp only [cutB]; rw [show ids.any (Nat.beq id) = true from hk]; exact hb)
  | aptr id i off bi hb => exact .aptr id i off bi (by simp only [cutB]; rw [show ids.any (Nat.beq id) = true from hk]; exact hb)
  | any => exact .any _
  | int => exact .int _ _
  | bool => exact .bool _
  | str => exact .str _
  | nilp => exact .nilp
  | nilf => exact .nilf
  | lst0 => exact .lst0 _ _
  | lstZ => exact .lstZ _ _
  | lst _ _ _ _ _ _ _ _ h1 h2 h3 h4 h5 h6 => exact .lst _ _ _ _ _ _ _ _ h1 h2 h3 h4 h5 h6
  | eptr _ _ _ _ _ h5 h6 => exact .eptr _ _ _ _ _ h5 h6
  | fn f fi ca xi xa h1 h2 h3 h4 => exact VR.up (closedS_nb hk (.fn f fi ca xi xa h1 h2 h3 h4))
  | agg => simp [keepS, closedS, closed0] at hk
  | tup => simp [keepS, closedS, closed0] at hk

theorem keepV_ok {β : Bt} {S : St} {w : World} {ids : List Nat} {v : Value} {x : AV} (hk : keepV ids x = true) (h : VR β S w v x) : VR (cutB β ids) S w v x := by
  by_cases e : ∃ cs, x = .agg cs
  · obtain ⟨cs, rfl⟩ := e
    cases h with
    | agg c xs h1 h3 h4 => exact .agg c cs h1 (fun j hj => keepS_ok (all_getD hk hj) (h3 j hj)) h4
  · by_cases e2 : ∃ vs, x = .tup vs
    · obtain ⟨vs, rfl⟩ := e2
      exact VR.up (closedV_nb hk h)
    · exact keepS_ok (by cases x <;> first | exact hk | exact absurd ⟨_, rfl⟩ e | exact absurd ⟨_, rfl⟩ e2) h

def keepB (ids : List Nat) : AB → Bool
  | .bx _ cells => cells.all (keepS ids)
  | _ => true

theorem keepB_ok {β : Bt} {S : St} {w : World} {ids : List Nat} {bi : BI} {k : AB} (hk : keepB ids k = true) (h : BR β S w bi k) : BR (cutB β ids) S w bi k := by
  cases k with
  | bx p cells =>
    obtain ⟨cs, t, h1, h2, h3, h4⟩ := h
    exact ⟨cs, t, h1, h2, fun j hj => ⟨keepS_ok (all_getD hk hj) (h3 j hj).1, (h3 j hj).2⟩, h4⟩
  | ar => exact h
  | ro => exact h
  | gone => exact h
  | rob => exact h

inductive WkB : AB → AB → Prop
  | refl (k : AB) : WkB k k
  | box {p : Option BI} {xs ys : List AV} (h : Wks xs ys) : WkB (.bx p xs) (.bx p ys)
  | arr {p : Option BI} {e es : Nat} {rs rs' : List (List AV)} {wr : Bool} (h : Wkr rs rs') : WkB (.ar p e es rs wr) (.ar p e es rs' wr)
theorem WkB.of_eq {x y : AB} (h : x = y) : WkB x y := h ▸ .refl x
theorem WkB.live {x y : AB} (h : WkB x y) : y.live = x.live := by cases h <;> rfl
theorem WkB.ok {β : Bt} {S : St} {w : World} {bi : BI} {x y : AB} (h : WkB x y) (hb : BR β S w bi x) : BR β S w bi y := by
  cases h with
  | refl => exact hb
  | @box p xs ys h =>
    obtain ⟨cs, t, h1, h2, h3, h4⟩ := hb
    have hl := h.len
    refine ⟨cs, t, h1, by omega, fun j hj => ⟨?_, (h3 j (by omega)).2⟩, h4⟩
    exact (h.ok (cv := fun j => cs.getD (0 + j) undef) (fun j hj => (h3 j hj).1)).2 j hj
  | @arr p e es rs rs' wr h =>
    obtain ⟨b1, b2, cs, b3, b4, b5, b6, b7, b8⟩ := hb
    obtain ⟨q1, q2⟩ := Wkr.ok (S := S) (w := w) h
    refine ⟨b1, by omega, cs, b3, b4, b5, b6, fun i hi => ?_, b8⟩
    obtain ⟨r1, r2⟩ := b7 i (by omega)
    obtain ⟨g1, g2⟩ := q2 i (by omega)
    exact ⟨by omega, fun j hj => ⟨g2 (fun j => cs.getD (i * es + j) undef) (fun j hj => (r2 j hj).1) j hj, (r2 j (by omega)).2⟩⟩

/-- A slot is seen as less: by its value alone, or as what a callee would see. -/
def SeeV (blk : Bk) (ids : List Nat) (x v : AV) : Prop := (Wk x v ∧ keepV ids v = true) ∨ ∃ y, argV blk x = some y ∧ Wk y v

def subV (s : AS) (ids : List Nat) : List (Nat × AV) → Prop
  | [] => True
  | (t, v) :: l => (∃ x, s.env t = some x ∧ SeeV s.blk ids x v) ∧ subV s ids l
def subB (s : AS) (ids : List Nat) : List (Nat × AB) → Prop
  | [] => True
  | (t, v) :: l => ((∃ k, s.blk t = some k ∧ WkB k v) ∧ keepB ids v = true) ∧ subB s ids l
def bkOf : List (Nat × AB) → Bk
  | [], _ => none
  | (t, v) :: l, u => match Nat.beq u t with
    | true => some v
    | false => bkOf l u

theorem subV_ok {ids : List Nat} : ∀ {l : List (Nat × AV)}, subV s ids l → ∀ t v, envOf l t = some v → ∃ x, s.env t = some x ∧ SeeV s.blk ids x v
  | [], _, t, v, h => by cases h
  | (u, y) :: l, hl, t, v, h => by
    unfold envOf at h
    split at h
    · rename_i e
      obtain rfl := Option.some.inj h
      rw [Nat.eq_of_beq_eq_true e]; exact hl.1
    · exact subV_ok hl.2 t v h

theorem subB_ok {ids : List Nat} : ∀ {l : List (Nat × AB)}, subB s ids l → ∀ t v, bkOf l t = some v → (∃ k, s.blk t = some k ∧ WkB k v) ∧ keepB ids v = true
  | [], _, t, v, h => by cases h
  | (u, y) :: l, hl, t, v, h => by
    unfold bkOf at h
    split at h
    · rename_i e
      obtain rfl := Option.some.inj h
      rw [Nat.eq_of_beq_eq_true e]; exact hl.1
    · exact subB_ok hl.2 t v h

theorem bkOf_dom : ∀ {l : List (Nat × AB)} {t : Nat}, (l.map (·.1)).any (Nat.beq t) = true → ∃ v, bkOf l t = some v
  | [], t, h => by simp at h
  | (u, y) :: l, t, h => by
    unfold bkOf
    cases e : Nat.beq t u with
    | true => exact ⟨y, rfl⟩
    | false => exact bkOf_dom (by simpa [e] using h)

theorem bkOf_dom' : ∀ {l : List (Nat × AB)} {t : Nat} {v : AB}, bkOf l t = some v → (l.map (·.1)).any (Nat.beq t) = true
  | [], t, v, h => by cases h
  | (u, y) :: l, t, v, h => by
    unfold bkOf at h
    split at h
    · rename_i e; simp [e]
    · have := bkOf_dom' h; simp only [List.map_cons, List.any_cons, this, Bool.or_true]

/-- A state that says less: some slots, some blocks. -/
theorem less_sub {l : List (Nat × AV)} {bl : List (Nat × AB)} (h : subV s (bl.map (·.1)) l) (hb : subB s (bl.map (·.1)) bl) : Less s ⟨envOf l, bkOf bl⟩ := by
  intro w0 nt β S a w hs
  refine ⟨cutB β (bl.map (·.1)), S, ⟨?_, ?_, ?_, hs.hh.hold, hs.hh.hnew, hs.hh.hlt, hs.hh.hbelow⟩, fun t x hx => ?_, hs.hsize, hs.hdefers⟩
  · intro id k hk
    obtain ⟨⟨k0, h1, h0⟩, h2⟩ := subB_ok hb id k hk
    obtain ⟨bi, h3, h4, h5⟩ := hs.hh.hblk id k0 h1
    exact ⟨bi, by simp only [cutB]; rw [bkOf_dom' hk]; exact h3, keepB_ok h2 (h0.ok h4), fun q => h5 (by rw [← h0.live]; exact q)⟩
  · intro id bi hbi
    simp only [cutB] at hbi
    split at hbi
    · rename_i e; exact bkOf_dom e
    · cases hbi
  · intro i j bi bj ki kj hne q1 l1 q2 l2 p1 p2
    have e1 : β i = some bi := by
      simp only [cutB] at p1
      split at p1
      · exact p1
      · cases p1
    have e2 : β j = some bj := by
      simp only [cutB] at p2
      split at p2
      · exact p2
      · cases p2
    obtain ⟨⟨k1, g1, g2⟩, _⟩ := subB_ok hb i ki q1
    obtain ⟨⟨k2, g3, g4⟩, _⟩ := subB_ok hb j kj q2
    exact hs.hh.hinj i j bi bj k1 k2 hne g1 (by rw [← g2.live]; exact l1) g3 (by rw [← g4.live]; exact l2) e1 e2
  · obtain ⟨y, h1, h2⟩ := subV_ok h t x hx
    rcases h2 with ⟨h2, h3⟩ | ⟨z, h2, h3⟩
    · exact keepV_ok h3 (h2.ok (hs.henv t y h1))
    · exact h3.ok (VR.up (argV_ok hs.hh (hs.henv t y h1) h2))

end
end Go.Aw
