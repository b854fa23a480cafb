/-
  Boxes lent to be written: contracts, calls, a contract out of a body's walk.
-/
import Derived.Test.YtpnjflimilamdaaGreatAw29
namespace Go.Aw
open Go.RowKit

/-- The one block that is lent. -/
def lentB (B : BI) : Bt := upd nb 0 B

/-- All but the lent block. -/
abbrev butL (w : World) (L : Nat) : Nat → Prop := fun k => k < w.heap.size ∧ k ≠ L

/-- A block with where it is known to lie. -/
def pinAB (p : Option BI) : AB → AB
  | .bx _ c => .bx p c
  | .ar _ e es rows wr => .ar p e es rows wr
  | k => k
/-- What may be lent: a box, an array that is still written. -/
def lendable : AB → Bool
  | .bx _ _ => true
  | .ar _ _ _ _ wr => wr
  | _ => false

theorem lendable_live {k : AB} (h : lendable k = true) : k.live = true := by cases k <;> first | rfl | cases h
theorem lendable_pin {p : Option BI} {k : AB} : lendable (pinAB p k) = lendable k := by cases k <;> rfl
theorem lendable_free {β : Bt} {S : St} {w : World} {bi : BI} {k : AB} (h : lendable k = true) (hb : BR β S w bi k) : ∀ o, ¬ S bi.b o := by
  cases k with
  | bx p c => obtain ⟨_, _, _, _, _, q, _⟩ := hb; exact q
  | ar p e es rows wr =>
    obtain ⟨_, _, _, _, _, _, _, _, q, _⟩ := hb
    exact q h
  | _ => cases h
/-- A block stays what it is wherever it is known to lie. -/
theorem BR.repin {β : Bt} {S : St} {w : World} {bi : BI} {p p' : Option BI} {k : AB} (h : BR β S w bi (pinAB p k)) (hp : ∀ B, p' = some B → bi = B) : BR β S w bi (pinAB p' k) := by
  cases k with
  | bx q c => obtain ⟨cs, t, h1, h2, h3, h4, _⟩ := h; exact ⟨cs, t, h1, h2, h3, h4, hp⟩
  | ar q e es rows wr => obtain ⟨h1, h2, cs, h3, h4, h5, h6, h7, h8, h9, _⟩ := h; exact ⟨h1, h2, cs, h3, h4, h5, h6, h7, h8, h9, hp⟩
  | _ => exact h
def pinOf : AB → Option BI
  | .bx p _ => p
  | .ar p _ _ _ _ => p
  | _ => none
theorem pin_pinOf (k : AB) : pinAB (pinOf k) k = k := by cases k <;> rfl
theorem pin_pin (p q : Option BI) (k : AB) : pinAB p (pinAB q k) = pinAB p k := by cases k <;> rfl
theorem BR.pinned {β : Bt} {S : St} {w : World} {bi : BI} {k : AB} (h : BR β S w bi k) : ∀ B, pinOf k = some B → bi = B := by
  cases k with
  | bx q c => obtain ⟨cs, t, h1, h2, h3, h4, h5⟩ := h; exact h5
  | ar q e es rows wr => obtain ⟨h1, h2, cs, h3, h4, h5, h6, h7, h8, h9, h10⟩ := h; exact h10
  | _ => intro B q; cases q
theorem BR.upN {β : Bt} {S : St} {w : World} {bi : BI} {k : AB} (h : BR nb S w bi k) : BR β S w bi k :=
  h.ext (fun _ _ q => by cases q) (fun b o q => ⟨q, rfl⟩) (fun _ => rfl) (fun _ _ q => q)

/-- What a lent block holds as the callee sees it: no other own block is named. -/
def argB (blk : Bk) : AB → Option AB
  | .bx _ c => match argSs blk c with
    | some c' => some (.bx none c')
    | none => none
  | .ar _ e es rows true => some (.ar none e es rows true)
  | _ => none
theorem argB_lendable {blk : Bk} {k k' : AB} (h : argB blk k = some k') : lendable k = true ∧ lendable k' = true := by
  cases k with
  | bx p c =>
    simp only [argB] at h
    split at h
    · obtain rfl := Option.some.inj h; exact ⟨rfl, rfl⟩
    · cases h
  | ar p e es rows wr =>
    cases wr with
    | true => obtain rfl := Option.some.inj h; exact ⟨rfl, rfl⟩
    | false => cases h
  | _ => cases h
theorem argB_ok {w0 : B0} {w : World} {β : Bt} {S : St} {blk : Bk} (h : HR w0 β S blk w) {bi : BI} {k k' : AB} (hb : BR β S w bi k) (ha : argB blk k = some k') : BR nb S w bi (pinAB (pinOf k) k') := by
  cases k with
  | bx p c =>
    simp only [argB] at ha
    split at ha
    · rename_i c' hc
      obtain rfl := Option.some.inj ha
      obtain ⟨cs, t, h1, h2, h3, h4, h5⟩ := hb
      obtain ⟨q1, q2⟩ := argSs_ok h (cv := fun j => cs.getD (0 + j) undef) hc (fun j hj => (h3 j hj).1)
      exact ⟨cs, t, h1, by omega, fun j hj => ⟨q2 j hj, (h3 j (by omega)).2⟩, h4, h5⟩
    · cases ha
  | ar p e es rows wr =>
    cases wr with
    | true => obtain rfl := Option.some.inj ha; exact hb
    | false => cases ha
  | _ => cases ha
theorem argB_mono {s t' : AS} (h : s.le t') {k k' : AB} (hb : argB s.blk k = some k') : argB t'.blk k = some k' := by
  cases k with
  | bx p c =>
    simp only [argB] at hb ⊢
    split at hb
    · rename_i c' hc; rw [argSs_mono h hc]; exact hb
    · cases hb
  | ar p e es rows wr => cases wr <;> exact hb
  | _ => exact hb
theorem pin_live {p : Option BI} {k : AB} : (pinAB p k).live = k.live := by cases k <;> rfl
theorem WkB.pin {p : Option BI} {x y : AB} (h : WkB x y) : WkB (pinAB p x) (pinAB p y) := by
  cases h with
  | refl => exact .refl _
  | box h => exact .box h
  | arr h => exact .arr h

/-- Called with what reads as 'args' and a block lent (in 'args' it has the number 0) that holds k: it holds k2 then; what comes back reads as 'res'; nothing else that was there has changed. -/
structure MC (P : Program) (f : Nat) (args : List AV) (k : AB) (res : AV) (k2 : AB) : Prop where
  lend : lendable k2 = true
  pc : ∀ (w : World) (S0 : St) (ca : Array Value) (B : BI), (∀ b o, S0 b o → b < w.heap.size) → ca.size = args.length → (∀ j, j < args.length → VR (lentB B) S0 w (ca.getD j undef) (args.getD j .any)) → BR nb S0 w B (pinAB (some B) k) →
    Calls P f ca w fun e w' => ∃ v S', e = .returned v ∧ BelowP (butL w B.b) w w' ∧ (∀ b o, S0 b o → S' b o) ∧ (∀ b o, S' b o → b < w.heap.size → S0 b o) ∧ (∀ b o, S' b o → b < w'.heap.size) ∧
      BR nb S' w' B (pinAB (some B) k2) ∧ VR nb S' w' v res
  fn : ∃ fn, P.funcs[f]? = some fn ∧ fn.body.isNone = false ∧ (fn.name == "runtime.NumGoroutine") = false

/-- A callee's end: what was there stands but for one block that was lent. -/
theorem HR.lent {w0 : B0} {w w' : World} {β : Bt} {S S' : St} {blk : Bk} (h : HR w0 β S blk w) {id : Nat} {k k' : AB} {bi : BI} (hk : blk id = some k) (hl : k.live = true) (hbi : β id = some bi)
    (hS : ∀ o, ¬ S bi.b o) (hB : BelowP (butL w bi.b) w w') (h1 : ∀ b o, S b o → S' b o) (h2 : ∀ b o, S' b o → b < w.heap.size → S b o) (h3 : ∀ b o, S' b o → b < w'.heap.size) (hnew : BR β S' w' bi k') :
    HR w0 β S' (upd blk id k') w' ∧ ∀ {v x}, VR β S w v x → VR β S' w' v x := by
  have hSm : ∀ b o, S b o → S' b o ∧ w'.cell? ⟨b, o, none⟩ = w.cell? ⟨b, o, none⟩ := fun b o q => ⟨h1 b o q, World.cell?_of_block (hB.block b ⟨h.hlt b o q, fun e => hS o (e ▸ q)⟩)⟩
  have hv : ∀ {v x}, VR β S w v x → VR β S' w' v x := fun q => q.mono (fun _ _ q => q) hSm
  have hgs : w0.w.heap.size ≤ w.heap.size := h.hbelow.size
  obtain ⟨bi2, e1, _, hge⟩ := h.hblk id k hk
  rw [hbi] at e1
  obtain rfl := Option.some.inj e1
  refine ⟨⟨?_, ?_, ?_, fun b o q => h1 b o (h.hold b o q), fun b o q hlo => h.hnew b o (h2 b o q (by have := w0.hlt0 b hlo; omega)) hlo, h3, ?_⟩, hv⟩
  · intro i kk q
    by_cases e : i = id
    · subst e
      have : some k' = some kk := (upd_same blk i k').symm.trans q
      obtain rfl := Option.some.inj this
      exact ⟨bi, hbi, hnew, fun _ => hge hl⟩
    · rw [upd_other blk k' e] at q
      obtain ⟨b2, g1, g2, g3⟩ := h.hblk i kk q
      exact ⟨b2, g1, g2.ext (fun _ _ q => q) hSm (fun hl2 => hB.block _ ⟨g2.lt hl2, fun eb => h.hinj i id b2 bi kk k e q hl2 hk hl g1 hbi eb⟩) (fun hl2 o q => h2 _ o q (g2.lt hl2)), g3⟩
  · intro i b q
    by_cases e : i = id
    · subst e; exact ⟨k', upd_same blk i k'⟩
    · obtain ⟨k2, hk2⟩ := h.hdom i b q
      exact ⟨k2, by rw [upd_other blk k' e]; exact hk2⟩
  · intro i j b1 b2 k1 k2 hne q1 l1 q2 l2 p1 p2
    by_cases ei : i = id
    · subst ei
      rw [upd_other blk k' (fun e => hne e.symm)] at q2
      exact h.hinj i j b1 b2 k k2 hne hk hl q2 l2 p1 p2
    · rw [upd_other blk k' ei] at q1
      by_cases ej : j = id
      · subst ej
        exact h.hinj i j b1 b2 k1 k hne q1 l1 hk hl p1 p2
      · rw [upd_other blk k' ej] at q2
        exact h.hinj i j b1 b2 k1 k2 hne q1 l1 q2 l2 p1 p2
  · refine h.hbelow.trans ⟨hB.os, hB.tape, hB.output, hB.size, fun b hb => hB.block b ⟨by have := w0.hlt0 b hb; omega, fun e => hge hl (e ▸ hb)⟩⟩

/-! arguments -/
def argM (blk : Bk) (id0 : Nat) : AV → Option AV
  | .ptr id off => match Nat.beq id id0 with
    | true => some (.ptr 0 off)
    | false => argV blk (.ptr id off)
  | .arr id => match Nat.beq id id0 with
    | true => some (.arr 0)
    | false => argV blk (.arr id)
  | x => argV blk x

def evArgsM (s : AS) (id0 : Nat) : List Operand → Option (List AV)
  | [] => some []
  | x :: l => match evO s x with
    | some v => match argM s.blk id0 v, evArgsM s id0 l with
      | some y, some r => some (y :: r)
      | _, _ => none
    | none => none

theorem argM_ok {w0 : B0} {w : World} {β : Bt} {S : St} {blk : Bk} (h : HR w0 β S blk w) {id0 : Nat} {bi : BI} (hbi : β id0 = some bi) {v : Value} {x y : AV} (hv : VR β S w v x) (ha : argM blk id0 x = some y) : VR (lentB bi) S w v y := by
  by_cases e : (∃ off, x = .ptr id0 off) ∨ x = .arr id0
  · rcases e with ⟨off, rfl⟩ | rfl
    · simp only [argM, Nat.beq_refl] at ha
      obtain rfl := Option.some.inj ha
      cases hv with
      | ptr _ _ b2 hb =>
        rw [hbi] at hb
        obtain rfl := Option.some.inj hb
        exact .ptr 0 off bi (upd_same _ _ _)
    · simp only [argM, Nat.beq_refl] at ha
      obtain rfl := Option.some.inj ha
      cases hv with
      | arr _ b2 hb =>
        rw [hbi] at hb
        obtain rfl := Option.some.inj hb
        exact .arr 0 bi (upd_same _ _ _)
  · have ha' : argV blk x = some y := by
      cases x <;> try exact ha
      · rename_i id off
        simp only [argM] at ha
        split at ha
        · rename_i q; exact absurd (.inl ⟨off, by rw [Nat.eq_of_beq_eq_true q]⟩) e
        · exact ha
      · rename_i id
        simp only [argM] at ha
        split at ha
        · rename_i q; exact absurd (.inr (by rw [Nat.eq_of_beq_eq_true q])) e
        · exact ha
    exact VR.up (argV_ok h hv ha')

theorem evArgsM_ok {w0 : B0} {nt : Nat} {s : AS} {w : World} {β : Bt} {S : St} {a : Act} (hs : SR w0 nt β S s a w) {id0 : Nat} {bi : BI} (hbi : β id0 = some bi) : ∀ {l : List Operand} {xs : List AV}, evArgsM s id0 l = some xs → l.length = xs.length ∧
    ∀ j, j < xs.length → VR (lentB bi) S w ((l.map a.eval).getD j undef) (xs.getD j .any)
  | [], xs, h => by obtain rfl := Option.some.inj h; exact ⟨rfl, fun j hj => by simp at hj⟩
  | x :: l, xs, h => by
    simp only [evArgsM] at h
    split at h
    · rename_i v hv
      split at h
      · rename_i y r e1 e2
        obtain rfl := Option.some.inj h
        obtain ⟨q1, q2⟩ := evArgsM_ok hs hbi e2
        refine ⟨by simp [q1], fun j hj => ?_⟩
        cases j with
        | zero => simpa using argM_ok hs.hh hbi (evO_ok hs hv) e1
        | succ j => simpa using q2 j (by simpa using hj)
      · cases h
    · cases h

theorem argM_mono {s t' : AS} (h : s.le t') {id0 : Nat} {p q : AV} (hb : argM s.blk id0 p = some q) : argM t'.blk id0 p = some q := by
  by_cases e : (∃ id off, p = .ptr id off) ∨ ∃ id, p = .arr id
  · rcases e with ⟨id, off, rfl⟩ | ⟨id, rfl⟩
    all_goals
      simp only [argM] at hb ⊢
      split at hb
      · exact hb
      · exact argV_mono h hb
  · have e1 : ∀ b, argM b id0 p = argV b p := fun b => by cases p <;> first | rfl | exact absurd (.inl ⟨_, _, rfl⟩) e | exact absurd (.inr ⟨_, rfl⟩) e
    rw [e1] at hb ⊢; exact argV_mono h hb

theorem evArgsM_mono {s t' : AS} (h : s.le t') {id0 : Nat} : ∀ {l : List Operand} {xs : List AV}, evArgsM s id0 l = some xs → evArgsM t' id0 l = some xs
  | [], xs, hb => hb
  | x :: l, xs, hb => by
    simp only [evArgsM] at hb ⊢
    split at hb
    · rename_i v hv
      rw [evO_mono h hv]
      simp only
      split at hb
      · rename_i y r e1 e2
        rw [argM_mono h e1, evArgsM_mono h e2]; exact hb
      · cases hb
    · cases hb

theorem MC.weak {P : Program} {f : Nat} {xs ys : List AV} {k l : AB} {res : AV} {k2 : AB} (h : MC P f ys l res k2) (hw : Wks xs ys) (hc : WkB k l) : MC P f xs k res k2 := by
  refine ⟨h.lend, fun w S0 ca B h1 h2 h3 h4 => ?_, h.fn⟩
  obtain ⟨q1, q2⟩ := hw.ok (cv := fun j => ca.getD j undef) h3
  exact h.pc w S0 ca B h1 (by omega) q2 (hc.pin.ok h4)

section
variable {P : Program} {ty : Ty} {w0 : B0} {nt : Nat} {s : AS} {d : Option Nat} {t : TypeId} {pos : String} {af : Array Edge} {g : Option (Nat × Bool)}

/-- A call to which a block is lent, to be written. -/
theorem ok_callM {f id0 : Nat} {k k1 k2 : AB} {as : Array Operand} {ts : Array TypeId} {xs : List AV} {res : AV} (hk : s.blk id0 = some k) (hcs : argB s.blk k = some k1)
    (ha : evArgsM s id0 as.toList = some xs) (hc : MC P f xs k1 res k2) (hd : dOK nt d = true) :
    OkOp P w0 nt ⟨d, .call { callee := .value (.func f), args := as, argTypes := ts }, t, pos, af, g⟩ s ((s.setB id0 (pinAB (pinOf k) k2)).put d res) := by
  intro β S a w next Q hs hn
  obtain ⟨fn, hf, hbody, hname⟩ := hc.fn
  obtain ⟨bi, hbi, hbr, hold⟩ := hs.hh.hblk id0 _ hk
  obtain ⟨l1, l2⟩ := argB_lendable hcs
  obtain ⟨e1, e2⟩ := evArgsM_ok hs hbi ha
  have hr : (execOp a.eval ⟨d, .call { callee := .value (.func f), args := as, argTypes := ts }, t, pos, af, g⟩).run P w = .ok (.enter f (as.map a.eval)) w := by
    have hcf : (callFunc f (as.map a.eval)).run P w = .ok (.enter f (as.map a.eval)) w := by
      unfold callFunc
      rw [Sem.run_bind, run_program, Result.andThen_ok]
      simp only [hf, hname, hbody, Bool.false_eq_true, if_false, Sem.run_pure]
    simp [execOp, resolve, Act.eval, Deferred.ofValue, invoke, hcf]
  unfold Oper.wp
  rw [hr]
  simp only [Oper.upon]
  refine (hc.pc w S (as.map a.eval) bi hs.hh.hlt (by simpa using e1) (fun j hj => by
    have := e2 j hj
    rw [← getD_toList, Array.toList_map]; exact this) ((argB_ok hs.hh hbr hcs).repin (fun B q => Option.some.inj q))).mono ?_
  rintro e w' ⟨v, S', rfl, hB, h1, h2, h3, hb2, hv⟩
  obtain ⟨r1, r2⟩ := hs.hh.lent (k' := pinAB (pinOf k) k2) hk (lendable_live l1) hbi (lendable_free l1 hbr) hB h1 h2 h3 (hb2.repin hbr.pinned).upN
  have hs2 : SR w0 nt β S' (s.setB id0 (pinAB (pinOf k) k2)) a w' := ⟨r1, fun u z q => r2 (hs.henv u z q), hs.hsize, hs.hdefers⟩
  exact hn _ _ _ _ (hs2.put hd (VR.up hv))

theorem m_callM {f : Nat} {k k1 k2 k3 : AB} {as : Array Operand} {ts : Array TypeId} {xs : List AV} {res : AV} (id0 : Nat) (hk : s.blk id0 = some k) (hcs : argB s.blk k = some k1)
    (ha : evArgsM s id0 as.toList = some xs) (hc : MC P f xs k1 res k2) (h3 : pinAB (pinOf k) k2 = k3) (hd : dOK nt d = true) :
    MStep P w0 nt ⟨d, .call { callee := .value (.func f), args := as, argTypes := ts }, t, pos, af, g⟩ s res [(id0, k3)] := by
  subst h3
  exact fun _ hle _ => ok_callM (hle.2 _ _ hk) (argB_mono hle hcs) (evArgsM_mono hle ha) hc hd

theorem packL_vr {w : World} {β : Bt} {S : St} {blk : Bk} (h : HR w0 β S blk w) {vs : List AV} {us : List Value} {res0 res : AV} (hl : us.length = vs.length) (hv : ∀ j, j < vs.length → VR β S w (us.getD j undef) (vs.getD j .any))
    (hp : packL blk vs = some res0) (hw : Wk res0 res) : VR nb S w (if h : us.toArray.size = 1 then us.toArray[0] else .tuple us.toArray) res := by
  have multi : (∀ x, vs ≠ [x]) → VR nb S w (.tuple us.toArray) res := by
    intro hne
    have hp' : ∃ ys, argVs blk vs = some ys ∧ res0 = .tup ys := by
      match vs, hp, hne with
      | [], hp, _ => exact ⟨[], rfl, (Option.some.inj hp).symm⟩
      | [x], _, hne => exact absurd rfl (hne x)
      | x :: y :: l, hp, _ =>
        simp only [packL] at hp
        obtain ⟨ys, h1, h2⟩ := Option.map_eq_some_iff.1 hp
        exact ⟨ys, h1, h2.symm⟩
    obtain ⟨ys, h1, rfl⟩ := hp'
    obtain ⟨q1, q2⟩ := argVs_ok h (cv := fun j => us.getD j undef) h1 hv
    exact hw.ok (.tup us.toArray ys (by simp [hl, q1]) (fun j hj => by have := q2 j hj; rw [← getD_toList, List.toList_toArray]; exact this))
  by_cases hone : ∃ x, vs = [x]
  · obtain ⟨x, rfl⟩ := hone
    match us, hl with
    | [u], _ =>
      have hu : VR β S w u x := by simpa using hv 0 (by simp)
      simpa using hw.ok (argV_ok h hu (show argV blk x = some res0 from hp))
  · have hne : ¬ us.toArray.size = 1 := by
      intro e
      have hlen : vs.length = 1 := by rw [← hl]; simpa using e
      obtain ⟨x, hx⟩ := List.length_eq_one_iff.1 hlen
      exact hone ⟨x, hx⟩
    rw [dif_neg hne]
    exact multi (fun x e => hone ⟨x, e⟩)

/-- What the body's end must say: what comes back, what the lent block holds. -/
def EndsM (ty : Ty) (rs : List ResultVar) (res : AV) (B : BI) (k2 : AB) (e : Exit) (s' : AS) : Prop :=
  (e = .ret ∨ e = .normal) ∧ ∃ s2, Less s' s2 ∧ (∃ id k k1, s2.blk id = some k ∧ pinOf k = some B ∧ argB s2.blk k = some k1 ∧ WkB k1 k2) ∧ ∃ vs, resL ty s2 rs = some vs ∧ ∃ x, packL s2.blk vs = some x ∧ Wk x res

theorem endsM_is {s' : AS} {rs : List ResultVar} {vs : List AV} {x res : AV} {B : BI} (id : Nat) {k k1 k2 : AB} (hk : s'.blk id = some k) (hp1 : pinOf k = some B) (ha : argB s'.blk k = some k1) (h : resL ty s' rs = some vs) (hp : packL s'.blk vs = some x) (hx : x = res) (hc : WkB k1 k2) :
    EndsM ty rs res B k2 .ret s' := ⟨.inl rfl, _, .refl _, ⟨id, k, k1, hk, hp1, ha, hc⟩, vs, h, x, hp, by rw [hx]; exact .refl _⟩
theorem endsM_end {s' : AS} {rs : List ResultVar} {vs : List AV} {x res : AV} {B : BI} (id : Nat) {k k1 k2 : AB} (hk : s'.blk id = some k) (hp1 : pinOf k = some B) (ha : argB s'.blk k = some k1) (h : resL ty s' rs = some vs) (hp : packL s'.blk vs = some x) (hx : x = res) (hc : WkB k1 k2) :
    EndsM ty rs res B k2 .normal s' := ⟨.inr rfl, _, .refl _, ⟨id, k, k1, hk, hp1, ha, hc⟩, vs, h, x, hp, by rw [hx]; exact .refl _⟩
theorem endsM_less {s' : AS} {rs : List ResultVar} {res : AV} {B : BI} {k2 : AB} {s2 : AS} {e : Exit} (h : Less s' s2) (k : EndsM ty rs res B k2 e s2) : EndsM ty rs res B k2 e s' := ⟨k.1, k.2.choose, h.trans k.2.choose_spec.1, k.2.choose_spec.2⟩

theorem MC_intro (hty : TyOK P ty) {f : Nat} {fn : Func} {c : Code} {args : List AV} {k : AB} {res : AV} {k2 : AB} (hf : P.funcs[f]? = some fn) (hb : fn.body = some c) (hname : (fn.name == "runtime.NumGoroutine") = false) (hn : Nat.ble args.length fn.ntmps = true)
    (hl : lendable k = true) (hl2 : lendable k2 = true) (h : ∀ (w0 : B0) (B : BI), AC P w0 fn.ntmps c ⟨fun t => args[t]?, bkOf [(0, pinAB (some B) k)]⟩ (EndsM ty fn.results.toList res B k2)) : MC P f args k res k2 := by
  refine ⟨hl2, ?_, fn, hf, by rw [hb]; rfl, hname⟩
  intro w S0 ca B hS hsz hca hbox
  have hn := Nat.le_of_ble_eq_true hn
  have hl' : lendable (pinAB (some B) k) = true := by rw [lendable_pin]; exact hl
  have hb0 : ∀ {id k'}, bkOf [(0, pinAB (some B) k)] id = some k' → id = 0 ∧ k' = pinAB (some B) k := by
    intro id k q
    unfold bkOf at q
    split at q
    · rename_i e; exact ⟨Nat.eq_of_beq_eq_true e, (Option.some.inj q).symm⟩
    · cases q
  have hβ0 : ∀ {id bi}, lentB B id = some bi → id = 0 ∧ bi = B := by
    intro id bi q
    by_cases e : id = 0
    · subst e
      have : some B = some bi := (upd_same nb 0 _).symm.trans q
      exact ⟨rfl, (Option.some.inj this).symm⟩
    · have : nb id = some bi := (upd_other nb _ e).symm.trans q
      cases this
  refine calls_of_wp hf hb (h ⟨w, S0, butL w B.b, fun _ h => h.1⟩ B (lentB B) S0 _ _ _ ⟨⟨?_, ?_, ?_, fun b o q => q, fun b o q _ => q, hS, BelowP.refl _ _⟩, ?_, ?_, rfl⟩ ?_)
  · intro id k q
    obtain ⟨rfl, rfl⟩ := hb0 q
    exact ⟨_, upd_same _ _ _, hbox.upN, fun _ ho => ho.2 rfl⟩
  · intro id bi q
    obtain ⟨rfl, _⟩ := hβ0 q
    exact ⟨_, rfl⟩
  · intro i j bi bj ki kj hne q1 _ q2
    exact absurd ((hb0 q1).1.trans (hb0 q2).1.symm) hne
  · intro t x hx
    have hlt : t < args.length := (List.getElem?_eq_some_iff.1 hx).1
    have := hca t hlt
    have hx' : args[t]? = some x := hx
    have e1 : args.getD t .any = x := by rw [List.getD_eq_getElem?_getD, hx']; rfl
    have e2 : (ca ++ Array.replicate (fn.ntmps - ca.size) undef).getD t undef = ca.getD t undef := by
      simp only [Array.getD_eq_getD_getElem?]
      rw [Array.getElem?_append_left (by omega)]
    rw [e1] at this
    simp only [e2]
    exact this
  · simp only [Array.size_append, Array.size_replicate]; omega
  · intro e β' S' a' w' s' hk hs'
    obtain ⟨he, s2, hl2', ⟨id, kk, k1, hk1, hpin, hk2, hk3⟩, vs, h1, x, h2, h6⟩ := hk
    obtain ⟨β', S', hs'⟩ := hl2' _ _ _ _ _ _ hs'
    obtain ⟨us, h3, h4, h5⟩ := resL_ok hty hs' h1
    have hres : (results fn a'.tmps).run P w' = .ok (if h : us.toArray.size = 1 then us.toArray[0] else .tuple us.toArray) w' := by
      rw [results_eq, Array.mapM_eq_mapM_toList]
      simp only [Sem.run_bind, Sem.run_map, h3, Result.andThen_ok, Sem.run_pure]
    have hbr : BR nb S' w' B (pinAB (some B) k2) := by
      obtain ⟨bi, g1, g2, _⟩ := hs'.hh.hblk id _ hk1
      obtain rfl := g2.pinned _ hpin
      have := argB_ok hs'.hh g2 hk2
      rw [hpin] at this
      exact hk3.pin.ok this
    have hfree := lendable_free (by rw [lendable_pin]; exact hl2) hbr
    have hpost : a'.defers = [] ∧ ∃ v, (results fn a'.tmps).run P w' = .ok v w' ∧ ∃ v2 S2, Ending.returned v = Ending.returned v2 ∧ BelowP (butL w B.b) w w' ∧ (∀ b o, S0 b o → S2 b o) ∧ (∀ b o, S2 b o → b < w.heap.size → S0 b o) ∧ (∀ b o, S2 b o → b < w'.heap.size) ∧
        BR nb S2 w' B (pinAB (some B) k2) ∧ VR nb S2 w' v2 res :=
      ⟨hs'.hdefers, _, hres, _, S', rfl, hs'.hh.hbelow, hs'.hh.hold, fun b o q hlt => hs'.hh.hnew b o q ⟨hlt, fun e => by subst e; exact hfree o q⟩, hs'.hh.hlt, hbr, packL_vr hs'.hh h4 h5 h2 h6⟩
    rcases he with rfl | rfl
    · exact hpost
    · exact hpost

/-- A call of a function value that hands back a word: the walk parts. -/
theorem WL_callFB {ops : Array Oper} {l : List Oper} {K : AS → Prop} {f : Nat} {x : Operand} {as : Array Operand} {ts : Array TypeId} {xi xa xs : List AV} {b : Bool} (hx : evO s x = some (.fn (.func f) xi xa)) (hcl : (xi.all closed0 && xa.all closed0) = true) (ha : evArgs s as.toList = some xs)
    (hc : FC P f (xi ++ xs ++ xa) (.bool b)) (hd : dOK nt d = true)
    (h1 : b = true → WL P w0 nt ops l (s.put d (.bool true)) K) (h2 : b = false → WL P w0 nt ops l (s.put d (.bool false)) K) : WL P w0 nt ops (⟨d, .call { callee := .value x, args := as, argTypes := ts }, t, pos, af, none⟩ :: l) s K := by
  refine WL_m rfl (m_callF 0 hx hcl ha hc rfl rfl hd) ?_
  cases b
  · exact h2 rfl
  · exact h1 rfl

/-- A whole element of an own array is loaded. -/
theorem m_loadA (hty : TyOK P ty) {u : Nat} {ui : TI} {x : Operand} {id i off e es : Nat} {pin : Option BI} {wr : Bool} {rows : List (List AV)} {row cs : List AV} (hi : ty u = some ui) (ha : ui.desc.isAgg = true) (hx : evO s x = some (.aptr id i off)) (hk : s.blk id = some (.ar pin e es rows wr)) (hr : rows[i]? = some row)
    (hl : Nat.beq ((row.drop off).take ui.size).length ui.size = true) (hf : forceL ((row.drop off).take ui.size) = some cs) (hd : dOK nt d = true) : MStep P w0 nt ⟨d, .load u x, t, pos, af, g⟩ s (.agg cs) [] := by
  intro t2 hle _
  obtain rfl := forceL_eq hf
  have hb : behind s.blk ui.size (.aptr id i off) = some ((row.drop off).take ui.size) := by simp only [behind, hk, hr, Option.map_some]
  exact ok_loadN hty hi ha (evO_mono hle hx) (behind_mono hle hb) hl hd

/-- Whether a function value is not nil. -/
theorem m_neNil {xt yt : TypeId} {x y : Operand} {v : AV} (hx : evO s x = some v) (hv : (match v with | .nilf | .fn _ _ _ => true | _ => false) = true) (hy : evO s y = some .nilf) (hu : isFnT P xt = true) (hd : dOK nt d = true) :
    MStep P w0 nt ⟨d, .binOp .neq xt x y yt, t, pos, af, g⟩ s (.bool (match v with | .nilf => false | _ => true)) [] := by
  intro t2 hle _
  refine ok_value hd fun β S a w hs => ?_
  have h1 := evO_ok hs (evO_mono hle hx)
  have h2 := evO_ok hs (evO_mono hle hy)
  generalize e1 : a.eval x = cx at h1
  generalize e2 : a.eval y = cy at h2
  cases h2
  obtain ⟨p1, p2, p3, hu'⟩ : ∃ p1 p2 p3, P.underlying xt = some (.func p1 p2 p3) := by
    unfold isFnT at hu
    split at hu
    · rename_i h; exact ⟨_, _, _, h⟩
    · cases hu
  cases h1 <;> first
    | (cases hv; done)
    | skip
  · have hg : (eqGuard .neq xt x y .nilFunc .nilFunc).run P w = .ok () w := by
      unfold eqGuard
      simp
    have heq : (Op.equal xt .nilFunc .nilFunc).run P w = .ok true w := by
      show (Op.equalIn (9999 + 1) xt .nilFunc .nilFunc).run P w = _
      rw [Op.equalIn]
      simp only [Sem.run_bind, run_underlying hu', Result.andThen_ok, Sem.run_pure]
    exact ⟨.bool false, by simp [execOp, e1, e2, hg, binOp, heq], .bool _⟩
  · rename_i f fi ca xi xa _ _ _ _
    have hg : (eqGuard .neq xt x y (.func f fi ca) .nilFunc).run P w = .ok () w := by
      unfold eqGuard
      simp
    have heq : (Op.equal xt (.func f fi ca) .nilFunc).run P w = .ok false w := by
      show (Op.equalIn (9999 + 1) xt (.func f fi ca) .nilFunc).run P w = _
      rw [Op.equalIn]
      simp only [Sem.run_bind, run_underlying hu', Result.andThen_ok, Sem.run_pure]
    exact ⟨.bool true, by simp [execOp, e1, e2, hg, binOp, heq], .bool _⟩
end
end Go.Aw
