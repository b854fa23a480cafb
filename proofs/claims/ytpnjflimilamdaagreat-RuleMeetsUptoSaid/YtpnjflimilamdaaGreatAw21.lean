/-
  Blocks under other numbers.
-/
import Derived.Test.YtpnjflimilamdaaGreatAw20
namespace Go.Aw
open Go.RowKit

/-- New number to old. -/
def rn (ρ : List (Nat × Nat)) (i : Nat) : Nat := match ρ with
  | [] => i
  | (a, b) :: l => match Nat.beq i a with
    | true => b
    | false => rn l i

def rnS (ρ : List (Nat × Nat)) : AV → AV
  | .ptr id o => .ptr (rn ρ id) o
  | .arr id => .arr (rn ρ id)
  | .aptr id i o => .aptr (rn ρ id) i o
  | x => x
def rnV (ρ : List (Nat × Nat)) : AV → AV
  | .agg cs => .agg (cs.map (rnS ρ))
  | x => rnS ρ x
def rnB (ρ : List (Nat × Nat)) : AB → AB
  | .bx p cs => .bx p (cs.map (rnS ρ))
  | k => k

def cutR (ρ : List (Nat × Nat)) (β : Bt) (ids : List Nat) : Bt := fun i => match ids.any (Nat.beq i) with
  | true => β (rn ρ i)
  | false => none

theorem rnS_closed {ρ : List (Nat × Nat)} {x : AV} (h : closedS x = true) : rnS ρ x = x := by cases x <;> first | rfl | simp [closedS, closed0] at h
theorem rnS_ok {ρ : List (Nat × Nat)} {β : Bt} {S : St} {w : World} {ids : List Nat} {v : Value} {x : AV} (hk : keepS ids x = true) (h : VR β S w v (rnS ρ x)) : VR (cutR ρ β ids) S w v x := by
  by_cases hc : closedS x = true
  · rw [rnS_closed hc] at h
    exact VR.up (closedS_nb hc h)
  · cases x with
    | ptr id off =>
      cases h with
      | ptr _ _ bi hb => exact .ptr id off bi (by simp only [cutR]; rw [show ids.any (Nat.beq id) = true from hk]; exact hb)
    | arr id =>
      cases h with
      | arr _ bi hb => exact .arr id bi (by simp only [cutR]; rw [show ids.any (Nat.beq id) = true from hk]; exact hb)
    | aptr id i off =>
      cases h with
      | aptr _ _ _ bi hb => exact .aptr id i off bi (by simp only [cutR]; rw [show ids.any (Nat.beq id) = true from hk]; exact hb)
    | _ => exact absurd hk hc

theorem rnV_ok {ρ : List (Nat × Nat)} {β : Bt} {S : St} {w : World} {ids : List Nat} {v : Value} {x : AV} (hk : keepV ids x = true) (h : VR β S w v (rnV ρ x)) : VR (cutR ρ β ids) S w v x := by
  by_cases e : ∃ cs, x = .agg cs
  · obtain ⟨cs, rfl⟩ := e
    cases h with
    | agg c _ h1 h3 h4 =>
      simp only [List.length_map] at h1 h3 h4
      refine .agg c cs h1 (fun j hj => rnS_ok (ρ := ρ) (all_getD hk hj) ?_) h4
      have := h3 j hj
      have e2 : (cs.map (rnS ρ)).getD j .any = rnS ρ (cs.getD j .any) := by simp [List.getD_eq_getElem?_getD, hj]
      rwa [e2] at this
  · by_cases e2 : ∃ vs, x = .tup vs
    · obtain ⟨vs, rfl⟩ := e2
      exact VR.up (closedV_nb hk h)
    · have e3 : rnV ρ x = rnS ρ x := by cases x <;> first | rfl | exact absurd ⟨_, rfl⟩ e
      rw [e3] at h
      exact rnS_ok (by cases x <;> first | exact hk | exact absurd ⟨_, rfl⟩ e | exact absurd ⟨_, rfl⟩ e2) h

theorem rnB_ok {ρ : List (Nat × Nat)} {β : Bt} {S : St} {w : World} {ids : List Nat} {bi : BI} {k : AB} (hk : keepB ids k = true) (h : BR β S w bi (rnB ρ k)) : BR (cutR ρ β ids) S w bi k := by
  cases k with
  | bx p cells =>
    obtain ⟨cs, t, h1, h2, h3, h4⟩ := h
    simp only [List.length_map] at h2
    refine ⟨cs, t, h1, h2, fun j hj => ?_, h4⟩
    have := h3 j (by simpa using hj)
    have e2 : (cells.map (rnS ρ)).getD j .any = rnS ρ (cells.getD j .any) := by simp [List.getD_eq_getElem?_getD, hj]
    rw [e2] at this
    exact ⟨rnS_ok (all_getD hk hj) this.1, this.2⟩
  | ar => exact h
  | ro => exact h
  | gone => exact h
  | rob => exact h

def subVr (ρ : List (Nat × Nat)) (s : AS) (ids : List Nat) : List (Nat × AV) → Prop
  | [] => True
  | (t, v) :: l => (∃ x, s.env t = some x ∧ ((Wk x (rnV ρ v) ∧ keepV ids v = true) ∨ ∃ y, argV s.blk x = some y ∧ Wk y v)) ∧ subVr ρ s ids l
def subBr (ρ : List (Nat × Nat)) (s : AS) (ids : List Nat) : List (Nat × AB) → Prop
  | [] => True
  | (t, v) :: l => ((∃ k, s.blk (rn ρ t) = some k ∧ WkB k (rnB ρ v)) ∧ keepB ids v = true) ∧ subBr ρ s ids l

section
variable {s : AS} {ρ : List (Nat × Nat)} {ids : List Nat}

theorem subVr_ok : ∀ {l : List (Nat × AV)}, subVr ρ s ids l → ∀ t v, envOf l t = some v → ∃ x, s.env t = some x ∧ ((Wk x (rnV ρ v) ∧ keepV ids v = true) ∨ ∃ y, argV s.blk x = some y ∧ Wk y v)
  | [], _, t, v, h => by cases h
  | (u, y) :: l, hl, t, v, h => by
    unfold envOf at h
    split at h
    · rename_i e
      obtain rfl := Option.some.inj h
      rw [Nat.eq_of_beq_eq_true e]; exact hl.1
    · exact subVr_ok hl.2 t v h

theorem subBr_ok : ∀ {l : List (Nat × AB)}, subBr ρ s ids l → ∀ t v, bkOf l t = some v → (∃ k, s.blk (rn ρ t) = some k ∧ WkB k (rnB ρ v)) ∧ keepB ids v = true
  | [], _, t, v, h => by cases h
  | (u, y) :: l, hl, t, v, h => by
    unfold bkOf at h
    split at h
    · rename_i e
      obtain rfl := Option.some.inj h
      rw [Nat.eq_of_beq_eq_true e]; exact hl.1
    · exact subBr_ok hl.2 t v h

def injB (ρ : List (Nat × Nat)) (ids : List Nat) : Bool := ids.all fun i => ids.all fun j => Nat.beq i j || !(Nat.beq (rn ρ i) (rn ρ j))

theorem rnB_live (k : AB) : (rnB ρ k).live = k.live := by cases k <;> rfl

/-- A state that says less, its blocks under other numbers. -/
theorem less_ren (ρ : List (Nat × Nat)) {l : List (Nat × AV)} {bl : List (Nat × AB)} (hi : injB ρ (bl.map (·.1)) = true) (h : subVr ρ s (bl.map (·.1)) l) (hb : subBr ρ s (bl.map (·.1)) bl) : Less s ⟨envOf l, bkOf bl⟩ := by
  intro w0 nt β S a w hs
  have hdm : ∀ {i bi}, cutR ρ β (bl.map (·.1)) i = some bi → (bl.map (·.1)).any (Nat.beq i) = true ∧ β (rn ρ i) = some bi := by
    intro i bi q
    simp only [cutR] at q
    split at q
    · exact ⟨by assumption, q⟩
    · cases q
  have hmem : ∀ {i : Nat}, (bl.map (·.1)).any (Nat.beq i) = true → i ∈ bl.map (·.1) := by
    intro i q
    obtain ⟨x, hx, he⟩ := List.any_eq_true.1 q
    rw [Nat.eq_of_beq_eq_true he]; exact hx
  refine ⟨cutR ρ β (bl.map (·.1)), S, ⟨?_, ?_, ?_, hs.hh.hold, hs.hh.hnew, hs.hh.hlt, hs.hh.hbelow⟩, fun t x hx => ?_, hs.hsize, hs.hdefers⟩
  · intro id k hk
    obtain ⟨⟨k0, h1, h0⟩, h2⟩ := subBr_ok hb id k hk
    obtain ⟨bi, h3, h4, h5⟩ := hs.hh.hblk _ k0 h1
    exact ⟨bi, by simp only [cutR]; rw [bkOf_dom' hk]; exact h3, rnB_ok h2 (h0.ok h4), fun q => h5 (by rw [← h0.live, rnB_live]; exact q)⟩
  · intro id bi hbi
    exact bkOf_dom (hdm hbi).1
  · intro i j bi bj ki kj hne q1 l1 q2 l2 p1 p2
    obtain ⟨m1, e1⟩ := hdm p1
    obtain ⟨m2, e2⟩ := hdm p2
    obtain ⟨⟨k1, g1, g2⟩, _⟩ := subBr_ok hb i ki q1
    obtain ⟨⟨k2, g3, g4⟩, _⟩ := subBr_ok hb j kj q2
    have hne' : rn ρ i ≠ rn ρ j := by
      have := List.all_eq_true.1 (List.all_eq_true.1 hi i (hmem m1)) j (hmem m2)
      simp only [Bool.or_eq_true, Bool.not_eq_true'] at this
      intro e
      rcases this with q | q
      · exact hne (Nat.eq_of_beq_eq_true q)
      · rw [e, Nat.beq_refl] at q; cases q
    exact hs.hh.hinj _ _ bi bj k1 k2 hne' g1 (by rw [← g2.live, rnB_live]; exact l1) g3 (by rw [← g4.live, rnB_live]; exact l2) e1 e2
  · obtain ⟨y, h1, h2⟩ := subVr_ok h t x hx
    rcases h2 with ⟨h2, h3⟩ | ⟨z, h2, h3⟩
    · exact rnV_ok h3 (h2.ok (hs.henv t y h1))
    · exact h3.ok (VR.up (argV_ok hs.hh (hs.henv t y h1) h2))

end
end Go.Aw
