/-
  Rules: what is frozen, what is appended.
-/
import Derived.Test.YtpnjflimilamdaaGreatAw7
namespace Go.Aw
open Go.RowKit

/-- One own block's rights change, and what lasts grows by places of that block alone; the world stays. -/
theorem HR.turn {w0 : B0} {w : World} {β : Bt} {S S' : St} {blk : Bk} (h : HR w0 β S blk w) {id : Nat} {k k' : AB} {bi : BI} (hk : blk id = some k) (hl : k.live = true) (hbi : β id = some bi)
    (hS : ∀ b o, S' b o ↔ S b o ∨ (b = bi.b ∧ S' b o)) (hk' : (∀ {v x}, VR β S w v x → VR β S' w v x) → BR β S' w bi k') :
    HR w0 β S' (upd blk id k') w ∧ ∀ {v x}, VR β S w v x → VR β S' w v x := by
  have hSm : ∀ b o, S b o → S' b o ∧ w.cell? ⟨b, o, none⟩ = w.cell? ⟨b, o, none⟩ := fun b o q => ⟨(hS b o).2 (.inl q), rfl⟩
  have hv : ∀ {v x}, VR β S w v x → VR β S' w v x := fun q => q.mono (fun _ _ q => q) hSm
  obtain ⟨bi2, e1, hbr, hge⟩ := h.hblk id k hk
  rw [hbi] at e1
  obtain rfl := Option.some.inj e1
  have hblt := hbr.lt hl
  refine ⟨⟨?_, ?_, ?_, fun b o q => (hSm b o (h.hold b o q)).1, fun b o q hlt => ((hS b o).1 q).elim (fun q => h.hnew b o q hlt) (fun q => absurd (q.1 ▸ hlt) (hge hl)), ?_, h.hbelow⟩, hv⟩
  · intro i kk q
    by_cases e : i = id
    · subst e
      have : some k' = some kk := (upd_same blk i k').symm.trans q
      obtain rfl := Option.some.inj this
      exact ⟨bi, hbi, hk' hv, fun _ => hge hl⟩
    · rw [upd_other blk k' e] at q
      obtain ⟨b2, h1, h2, h3⟩ := h.hblk i kk q
      refine ⟨b2, h1, h2.ext (fun _ _ q => q) hSm (fun _ => rfl) (fun hl2 o q2 => ?_), h3⟩
      rcases (hS _ _).1 q2 with q3 | ⟨q3, _⟩
      · exact q3
      · exact absurd q3 (h.hinj i id b2 bi kk k e q hl2 hk hl h1 hbi)
  · intro i b q
    by_cases e : i = id
    · subst e; exact ⟨k', upd_same blk i k'⟩
    · obtain ⟨k2, hk2⟩ := h.hdom i b q
      exact ⟨k2, by rw [upd_other blk k' e]; exact hk2⟩
  · intro i j b1 b2 k1 k2 hne q1 l1 q2 l2 p1 p2
    by_cases ei : i = id
    · subst ei
      rw [upd_other blk k' (fun e => hne e.symm)] at q2
      exact h.hinj i j b1 b2 k k2 hne hk hl q2 l2 p1 p2
    · rw [upd_other blk k' ei] at q1
      by_cases ej : j = id
      · subst ej
        exact h.hinj i j b1 b2 k1 k hne q1 l1 hk hl p1 p2
      · rw [upd_other blk k' ej] at q2
        exact h.hinj i j b1 b2 k1 k2 hne q1 l1 q2 l2 p1 p2
  · intro b o q
    rcases (hS _ _).1 q with q | ⟨rfl, _⟩
    · exact h.hlt b o q
    · exact hblt

/-- An array of the call's own is written no more. -/
theorem HR.freeze {w0 : B0} {w : World} {β : Bt} {S : St} {blk : Bk} (h : HR w0 β S blk w) {id e es : Nat} {rows : List (List AV)} {wr : Bool} {pin : Option BI} {bi : BI} (hk : blk id = some (.ar pin e es rows wr)) (hbi : β id = some bi) :
    ∃ S', HR w0 β S' (upd blk id (.ar pin e es rows false)) w ∧ (∀ {v x}, VR β S w v x → VR β S' w v x) ∧ ∀ {v x}, VR nb S w v x → VR nb S' w v x := by
  cases wr with
  | false =>
    refine ⟨S, ?_, fun q => q, fun q => q⟩
    have : upd blk id (.ar pin e es rows false) = blk := by
      funext i
      by_cases e : i = id
      · subst e; rw [upd_same, hk]
      · rw [upd_other _ _ e]
    rw [this]; exact h
  | true =>
    obtain ⟨bi2, e1, h2, _⟩ := h.hblk id _ hk
    rw [hbi] at e1
    obtain rfl := Option.some.inj e1
    obtain ⟨h3, h4, cs, h5, h6, h7, h8, h9, h10, _, h12⟩ := h2
    have ht := h.turn (S' := fun b o => S b o ∨ (b = bi.b ∧ o < bi.n * es)) (k' := .ar pin e es rows false) hk rfl hbi (fun b o => ⟨fun q => q.elim .inl (fun q => .inr ⟨q.1, .inr q⟩), fun q => q.elim .inl (fun q => q.2)⟩) (fun _ =>
      ⟨h3, h4, cs, h5, h6, h7, h8, fun i hi => ⟨(h9 i hi).1, (h9 i hi).2.mono (fun _ _ q => q) (fun b o q => ⟨.inl q, rfl⟩)⟩, (fun q => by cases q),
        fun _ o => ⟨fun q => q.elim (fun q => absurd q (h10 rfl o)) (fun q => q.2), fun q => .inr ⟨rfl, q⟩⟩, h12⟩)
    exact ⟨_, ht.1, ht.2, fun q => q.mono (fun _ _ q => q) (fun b o q => ⟨.inl q, rfl⟩)⟩

/-- A frozen array of the call's own is told by its rows, for good. -/
theorem arr_lst {w0 : B0} {w : World} {β : Bt} {S : St} {blk : Bk} (h : HR w0 β S blk w) {pin : Option BI} {id e es : Nat} {rows : List (List AV)} (hk : blk id = some (.ar pin e es rows false) ∨ blk id = some (.ro e es rows)) {v : Value} (hv : VR β S w v (.arr id)) :
    VR β S w v (.lst es rows false) := by
  cases hv
  rename_i bi hbi
  rcases hk with hk | hk
  · obtain ⟨bi2, e1, h2, _⟩ := h.hblk id _ hk
    rw [hbi] at e1
    obtain rfl := Option.some.inj e1
    obtain ⟨h3, h4, cs, h5, h6, h7, h8, h9, _, h10, _⟩ := h2
    refine .lst bi.b 0 bi.n bi.c es rows false (fun i j => cs.getD (i * es + j) undef) h4.symm h6 (fun q => by cases q) (fun i hi => (h9 i (by omega)).1) (fun i j hi hj => ?_) (fun i j hi hj => ?_)
    · have hlt : i * es + j < bi.n * es := by
        have : (i + 1) * es ≤ bi.n * es := Nat.mul_le_mul_right _ hi
        rw [Nat.add_mul] at this; omega
      have hsz : i * es + j < cs.size := by
        rw [h8]; exact Nat.lt_of_lt_of_le hlt (Nat.mul_le_mul_right _ h6)
      have hrow := h9 i (by omega)
      refine ⟨by rw [Nat.zero_add]; exact (h10 rfl _).2 hlt, ?_, (hrow.2 j (by rw [hrow.1]; exact hj)).2⟩
      rw [Nat.zero_add]
      simp [World.cell?, h5, Array.getD, hsz]
    · have hrow := h9 i (by omega)
      exact (hrow.2 j (by rw [hrow.1]; exact hj)).1
  · obtain ⟨bi2, e1, h2, _⟩ := h.hblk id _ hk
    rw [hbi] at e1
    obtain rfl := Option.some.inj e1
    obtain ⟨h3, h4, h5, h6⟩ := h2
    have hc : ∃ f : Nat → Nat → Value, ∀ i j, i < bi.n → j < es → S bi.b (0 + i * es + j) ∧ w.cell? ⟨bi.b, 0 + i * es + j, none⟩ = some (f i j) ∧ (f i j).oneCell' = true ∧ VR nb S w (f i j) ((rows.getD i []).getD j .any) := by
      refine ⟨fun i j => if hh : i < rows.length ∧ j < es then ((h6 i hh.1).2 j hh.2).2.choose else undef, fun i j hi hj => ?_⟩
      have hi' : i < rows.length := by omega
      have hq := (h6 i hi').2 j hj
      simp only [hi', hj, and_self, dif_pos]
      rw [Nat.zero_add]
      exact ⟨hq.1, hq.2.choose_spec.1, hq.2.choose_spec.2.1, hq.2.choose_spec.2.2⟩
    obtain ⟨f, hf⟩ := hc
    exact .lst bi.b 0 bi.n bi.c es rows false f h4.symm h5 (fun q => by cases q) (fun i hi => (h6 i (by omega)).1) (fun i j hi hj => ⟨(hf i j hi hj).1, (hf i j hi hj).2.1, (hf i j hi hj).2.2.1⟩) (fun i j hi hj => (hf i j hi hj).2.2.2)

/-- The rows of a slice that is only read. -/
def srcRows (blk : Bk) : AV → Option (Nat × List (List AV))
  | .lst es rows _ => some (es, rows)
  | .arr id => match blk id with
    | some (.ar _ _ es rows _) => some (es, rows)
    | some (.ro _ es rows) => some (es, rows)
    | _ => none
  | _ => none

theorem src_ok {w0 : B0} {w : World} {β : Bt} {S : St} {blk : Bk} (h : HR w0 β S blk w) {v : Value} {x : AV} (hv : VR β S w v x) {es : Nat} {rows : List (List AV)} (hx : srcRows blk x = some (es, rows)) (hne : rows ≠ []) :
    ∃ b o c, v = .slice (some ⟨b, o, none⟩) rows.length c ∧ ∀ i, i < rows.length → (rows.getD i []).length = es ∧ ∀ j, j < es → ∃ u, w.cell? ⟨b, o + (i * es + j), none⟩ = some u ∧ u.oneCell' = true ∧ VR nb S w u ((rows.getD i []).getD j .any) := by
  cases hv with
  | lst0 => simp only [srcRows, Option.some.injEq, Prod.mk.injEq] at hx; exact absurd hx.2.symm hne
  | lstZ => simp only [srcRows, Option.some.injEq, Prod.mk.injEq] at hx; exact absurd hx.2.symm hne
  | lst b o n c es' rows' full cells h1 h2 h3 h4 h5 h6 =>
    simp only [srcRows, Option.some.injEq, Prod.mk.injEq] at hx
    obtain ⟨rfl, rfl⟩ := hx
    refine ⟨b, o, c, by rw [h1], fun i hi => ⟨h4 i (by omega), fun j hj => ?_⟩⟩
    obtain ⟨_, q2, q3⟩ := h5 i j (by omega) hj
    exact ⟨_, by rw [← Nat.add_assoc]; exact q2, q3, h6 i j (by omega) hj⟩
  | arr id bi hbi =>
    simp only [srcRows] at hx
    split at hx
    · rename_i e es2 rows2 wr hk
      obtain ⟨rfl, rfl⟩ := Prod.mk.inj (Option.some.inj hx)
      obtain ⟨bi2, e1, h2, _⟩ := h.hblk id _ hk
      rw [hbi] at e1
      obtain rfl := Option.some.inj e1
      obtain ⟨h3, h4, cs, h5, h6, h7, h8, h9, _⟩ := h2
      refine ⟨bi.b, 0, bi.c, by rw [h4], fun i hi => ⟨(h9 i hi).1, fun j hj => ?_⟩⟩
      have hlt : i * es2 + j < cs.size := by
        have : (i + 1) * es2 ≤ bi.c * es2 := Nat.mul_le_mul_right _ (by omega)
        rw [Nat.add_mul] at this
        rw [h8]; omega
      have hrow := h9 i hi
      refine ⟨cs.getD (i * es2 + j) undef, ?_, (hrow.2 j (by rw [hrow.1]; exact hj)).2, (hrow.2 j (by rw [hrow.1]; exact hj)).1⟩
      rw [Nat.zero_add]
      simp [World.cell?, h5, Array.getD, hlt]
    · rename_i e es2 rows2 hk
      obtain ⟨rfl, rfl⟩ := Prod.mk.inj (Option.some.inj hx)
      obtain ⟨bi2, e1, h2, _⟩ := h.hblk id _ hk
      rw [hbi] at e1
      obtain rfl := Option.some.inj e1
      obtain ⟨h3, h4, h5, h6⟩ := h2
      refine ⟨bi.b, 0, bi.c, by rw [h4], fun i hi => ⟨(h6 i hi).1, fun j hj => ?_⟩⟩
      obtain ⟨_, u, q1, q2, q3⟩ := (h6 i hi).2 j hj
      exact ⟨u, by rw [Nat.zero_add]; exact q1, q2, q3⟩
    · cases hx
  | _ => simp [srcRows] at hx

end Go.Aw
