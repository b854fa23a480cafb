/-
  What a term's root is reduced to, over no constants: Root, Is.
-/
import Derived.Test.YtpnjflimilamdaaGreatRule1
namespace Go.Proofs.YtpnjflimilamdaaGreat
set_option linter.unusedSimpArgs false
set_option linter.unusedVariables false
open Go.Aw Go.RowKit
attribute [local irreducible] WL AC WD MStep OkOp

def root0 (t : Tm) : Tm × Int := if checkT t ≠ 0 then (zT, checkT t) else match look0 t with
  | .none => (zT, 10)
  | .inst f u => if (instT (f.kids.getD 1 zT) (u.kids.drop 1) 0).2 ≠ 0 then (zT, (instT (f.kids.getD 1 zT) (u.kids.drop 1) 0).2) else ((instT (f.kids.getD 1 zT) (u.kids.drop 1) 0).1, 0)
  | .done u => (u, 0)
def isRx : Rx → Bool
  | .none => false
  | _ => true
def is0 (t : Tm) : Bool := decide (checkT t = 0) && isRx (look0 t)

theorem look0_inst {t f u : Tm} (h : look0 t = .inst f u) : u = t ∧ f.kind = 5 ∧ ∃ a, t.kids = [f, a] := by
  unfold look0 at h
  split at h
  · split at h
    · rename_i g a hk
      split at h
      · rename_i h5
        obtain ⟨rfl, rfl⟩ := Rx.inst.inj h
        exact ⟨rfl, h5, a, hk⟩
      · cases h
    · cases h
  · split at h
    · split at h
      · split at h <;> cases h
      · cases h
    · split at h
      · split at h
        · split at h <;> cases h
        · cases h
      · split at h
        · split at h
          · split at h <;> cases h
          · cases h
        · cases h
theorem size_getD (l : List Tm) (i : Nat) : (l.getD i zT).size ≤ 1 + sizes l := by
  rw [List.getD_eq_getElem?_getD]
  cases h : l[i]? with
  | none => simp [zT, Tm.size, sizes]
  | some a => have := size_le_sizes (List.mem_of_getElem? h); simp only [Option.getD_some]; omega
theorem look0_done {t u : Tm} (h : look0 t = .done u) : u.size ≤ t.size + 2 := by
  have ht := t.size_eq
  unfold look0 at h
  split at h
  · split at h
    · split at h <;> cases h
    · cases h
  · split at h
    · split at h
      · rename_i p hk
        split at h
        · cases h
          have := size_getD p.kids 1
          rw [hk] at ht
          have hp := p.size_eq
          simp only [sizes] at ht
          omega
        · cases h
      · cases h
    · split at h
      · split at h
        · rename_i p hk
          split at h
          · cases h
            have := size_getD p.kids 2
            rw [hk] at ht
            have hp := p.size_eq
            simp only [sizes] at ht
            omega
          · cases h
        · cases h
      · split at h
        · split at h
          · rename_i a b r hk
            split at h
            · cases h
              have := size_getD r.kids 1
              rw [hk] at ht
              have hp := r.size_eq
              have ha := a.size_pos
              simp only [sizes] at ht
              simp only [Tm.size, sizes]
              omega
            · cases h
          · cases h
        · cases h

theorem hfn41 : isFnT Tryz.prog 41 = true := by kernel_rfl
attribute [local irreducible] isFnT

set_option maxHeartbeats 4000000 in
theorem root0_spec (t : Tm) (hs : t.size ≤ 1000000) (f : Bool) (es : Nat) : FC Tryz.prog 7 [.lst es [] f, aT t] (.tup [aT (root0 t).1, .int .i64 (root0 t).2]) := by
  have hck := check0_spec es f
  have htc := tcheck_spec t (by omega)
  by_cases hc : checkT t = 0
  · obtain ⟨hc1, hc2, hc3⟩ := checkT_ok hc
    have hlk := (look0_spec t (by omega) hc3).args (xs := [.lst es [] f, aT t]) (.cons (.nilF _ _ _) (.cons (.refl _) .nil))
    rw [hc] at htc
    have hr : root0 t = match look0 t with
      | .none => (zT, 10)
      | .inst f u => if (instT (f.kids.getD 1 zT) (u.kids.drop 1) 0).2 ≠ 0 then (zT, (instT (f.kids.getD 1 zT) (u.kids.drop 1) 0).2) else ((instT (f.kids.getD 1 zT) (u.kids.drop 1) 0).1, 0)
      | .done u => (u, 0) := by unfold root0; rw [if_neg (by omega)]
    cases h : look0 t with
    | none =>
      rw [h] at hlk hr
      rw [hr]
      refine FC_intro hty Tryz.func7 rfl rfl rfl fun w0 => ?_
      repeat' (first
        | exact absurd rfl ‹_›
        | refine WL_call 0 rfl hck rfl rfl rfl ?_
        | refine WL_call 0 rfl htc rfl rfl rfl ?_
        | refine WL_call 0 rfl hlk rfl rfl rfl ?_
        | (refine WL_m rfl (m_eqNil (v := rxAV .none) ?_ rfl ?_ hfn41 rfl) ?_; (focus rfl); (focus rfl))
        | refine WL_p hty rfl rfl ?_
        | refine WL_nil ?_
        | refine AC_seq ?_
        | refine AC_region ?_
        | refine AC_block ?_
        | refine AC_skip ?_
        | refine AC_condT rfl ?_
        | refine AC_condF rfl ?_
        | refine AC_exit ?_
        | refine AC_ret ?_
        | refine WL_ung rfl rfl ?_
        | refine WL_offT rfl rfl rfl ?_
        | refine WL_offF rfl rfl rfl ?_
        | refine WL_offU rfl rfl rfl ?_
        | refine WL_m rfl (m_idxN hty rfl rfl rfl (by assumption) rfl) ?_
        | refine ends_bool rfl ?_
        | refine WL_cmp rfl rfl rfl rfl (fun _ => ?_) (fun _ => ?_)
        | refine AC_cond rfl (fun _ => ?_) (fun _ => ?_))
      refine ends_wk rfl rfl (.tup (.cons (.agg ?_) (.cons (.refl _) .nil)))
      repeat' (first | exact Wks.nil | refine Wks.cons (Wk.refl _) ?_ | refine Wks.cons (Wk.full _ _ _) ?_ | refine Wks.cons (Wk.nilF _ _ _) ?_)
    | inst g u =>
      rw [h] at hlk hr
      obtain ⟨rfl, h5, a, hk⟩ := look0_inst h
      have hgf := formedT_kids hc3 (show g ∈ u.kids by rw [hk]; exact List.mem_cons_self)
      obtain ⟨x, b, hgk⟩ := kids2 (l := g.kids) (by rw [formedT_len hgf, h5]; rfl)
      have hsz := u.size_eq
      have hgs := size_le_sizes (show g ∈ u.kids by rw [hk]; exact List.mem_cons_self)
      have hb : g.kids.getD 1 zT = b := by rw [hgk]; rfl
      have hl1 := look1_spec g u b (by rw [hgk]; rfl) (by rw [hk]; simp) (by omega) (by omega)
      replace hr : root0 u = if (instT (g.kids.getD 1 zT) (u.kids.drop 1) 0).2 ≠ 0 then (zT, (instT (g.kids.getD 1 zT) (u.kids.drop 1) 0).2) else ((instT (g.kids.getD 1 zT) (u.kids.drop 1) 0).1, 0) := hr
      rw [hb] at hr
      have hisz := inst_size b (u.kids.drop 1) 0
      have htw := twin_spec (instT b (u.kids.drop 1) 0).1 (by omega)
      rw [hr]
      refine FC_intro hty Tryz.func7 rfl rfl rfl fun w0 => ?_
      repeat' (first
        | exact absurd rfl ‹_›
        | refine WL_call 0 rfl hck rfl rfl rfl ?_
        | refine WL_call 0 rfl htc rfl rfl rfl ?_
        | refine WL_call 0 rfl hlk rfl rfl rfl ?_
        | refine WL_call 0 rfl htw rfl rfl rfl ?_
        | (refine WL_m rfl (m_eqNil (v := rxAV (.inst g u)) ?_ rfl ?_ hfn41 rfl) ?_; (focus rfl); (focus rfl))
        | refine WL_m rfl (m_callF 0 rfl rfl rfl hl1 rfl rfl rfl) ?_
        | refine WL_p hty rfl rfl ?_
        | refine WL_nil ?_
        | refine AC_seq ?_
        | refine AC_region ?_
        | refine AC_block ?_
        | refine AC_skip ?_
        | refine AC_condT rfl ?_
        | refine AC_condF rfl ?_
        | refine AC_exit ?_
        | refine AC_ret ?_
        | refine WL_ung rfl rfl ?_
        | refine WL_offT rfl rfl rfl ?_
        | refine WL_offF rfl rfl rfl ?_
        | refine WL_offU rfl rfl rfl ?_
        | refine WL_m rfl (m_idxN hty rfl rfl rfl (by assumption) rfl) ?_
        | refine ends_bool rfl ?_
        | refine WL_cmp rfl rfl rfl rfl (fun _ => ?_) (fun _ => ?_)
        | refine AC_cond rfl (fun _ => ?_) (fun _ => ?_))
      · rw [if_pos (by assumption)]
        refine ends_wk rfl rfl (.tup (.cons (.agg ?_) (.cons (.refl _) .nil)))
        repeat' (first | exact Wks.nil | refine Wks.cons (Wk.refl _) ?_ | refine Wks.cons (Wk.full _ _ _) ?_ | refine Wks.cons (Wk.nilF _ _ _) ?_)
      · rw [if_neg (by assumption)]
        exact ends_wk rfl rfl (.refl _)
    | done u =>
      rw [h] at hlk hr
      have hus := look0_done h
      have htw := twin_spec u (by omega)
      have hd1 := done1_spec u
      rw [hr]
      refine FC_intro hty Tryz.func7 rfl rfl rfl fun w0 => ?_
      repeat' (first
        | exact absurd rfl ‹_›
        | refine WL_call 0 rfl hck rfl rfl rfl ?_
        | refine WL_call 0 rfl htc rfl rfl rfl ?_
        | refine WL_call 0 rfl hlk rfl rfl rfl ?_
        | refine WL_call 0 rfl htw rfl rfl rfl ?_
        | (refine WL_m rfl (m_eqNil (v := rxAV (.done u)) ?_ rfl ?_ hfn41 rfl) ?_; (focus rfl); (focus rfl))
        | refine WL_m rfl (m_callF 0 rfl rfl rfl hd1 rfl rfl rfl) ?_
        | refine WL_p hty rfl rfl ?_
        | refine WL_nil ?_
        | refine AC_seq ?_
        | refine AC_region ?_
        | refine AC_block ?_
        | refine AC_skip ?_
        | refine AC_condT rfl ?_
        | refine AC_condF rfl ?_
        | refine AC_exit ?_
        | refine AC_ret ?_
        | refine WL_ung rfl rfl ?_
        | refine WL_offT rfl rfl rfl ?_
        | refine WL_offF rfl rfl rfl ?_
        | refine WL_offU rfl rfl rfl ?_
        | refine WL_m rfl (m_idxN hty rfl rfl rfl (by assumption) rfl) ?_
        | refine ends_bool rfl ?_
        | refine WL_cmp rfl rfl rfl rfl (fun _ => ?_) (fun _ => ?_)
        | refine AC_cond rfl (fun _ => ?_) (fun _ => ?_))
      exact ends_wk rfl rfl (.refl _)
  · have hr : root0 t = (zT, checkT t) := by unfold root0; rw [if_pos hc]
    rw [hr]
    refine FC_intro hty Tryz.func7 rfl rfl rfl fun w0 => ?_
    repeat' (first
      | exact absurd rfl ‹_›
      | exact absurd hc ‹_›
      | refine WL_call 0 rfl hck rfl rfl rfl ?_
      | refine WL_call 0 rfl htc rfl rfl rfl ?_
      | refine WL_p hty rfl rfl ?_
      | refine WL_nil ?_
      | refine AC_seq ?_
      | refine AC_region ?_
      | refine AC_block ?_
      | refine AC_skip ?_
      | refine AC_condT rfl ?_
      | refine AC_condF rfl ?_
      | refine AC_exit ?_
      | refine AC_ret ?_
      | refine WL_ung rfl rfl ?_
      | refine WL_offT rfl rfl rfl ?_
      | refine WL_offF rfl rfl rfl ?_
      | refine WL_offU rfl rfl rfl ?_
      | refine WL_m rfl (m_idxN hty rfl rfl rfl (by assumption) rfl) ?_
      | refine ends_bool rfl ?_
      | refine WL_cmp rfl rfl rfl rfl (fun _ => ?_) (fun _ => ?_)
      | refine AC_cond rfl (fun _ => ?_) (fun _ => ?_))
    refine ends_wk rfl rfl (.tup (.cons (.agg ?_) (.cons (.refl _) .nil)))
    repeat' (first | exact Wks.nil | refine Wks.cons (Wk.refl _) ?_ | refine Wks.cons (Wk.full _ _ _) ?_ | refine Wks.cons (Wk.nilF _ _ _) ?_)

set_option maxHeartbeats 4000000 in
theorem is0_spec (t : Tm) (hs : t.size ≤ 1000000) (f : Bool) (es : Nat) : FC Tryz.prog 10 [.lst es [] f, aT t] (.bool (is0 t)) := by
  have hck := check0_spec es f
  have htc := tcheck_spec t (by omega)
  unfold is0
  by_cases hc : checkT t = 0
  · obtain ⟨hc1, hc2, hc3⟩ := checkT_ok hc
    have hlk := (look0_spec t (by omega) hc3).args (xs := [.lst es [] f, aT t]) (.cons (.nilF _ _ _) (.cons (.refl _) .nil))
    rw [hc] at htc ⊢
    cases h : look0 t with
    | none =>
      rw [h] at hlk
      refine FC_intro hty Tryz.func10 rfl rfl rfl fun w0 => ?_
      repeat' (first
        | exact absurd rfl ‹_›
        | refine WL_call 0 rfl hck rfl rfl rfl ?_
        | refine WL_call 0 rfl htc rfl rfl rfl ?_
        | refine WL_call 0 rfl hlk rfl rfl rfl ?_
        | (refine WL_m rfl (m_neNil (v := rxAV .none) ?_ rfl ?_ hfn41 rfl) ?_; (focus rfl); (focus rfl))
        | refine WL_p hty rfl rfl ?_
        | refine WL_nil ?_
        | refine AC_seq ?_
        | refine AC_region ?_
        | refine AC_block ?_
        | refine AC_skip ?_
        | refine AC_condT rfl ?_
        | refine AC_condF rfl ?_
        | refine AC_exit ?_
        | refine AC_ret ?_
        | refine WL_ung rfl rfl ?_
        | refine WL_offT rfl rfl rfl ?_
        | refine WL_offF rfl rfl rfl ?_
        | refine WL_offU rfl rfl rfl ?_
        | refine WL_m rfl (m_idxN hty rfl rfl rfl (by assumption) rfl) ?_
        | refine ends_bool rfl ?_
        | refine WL_cmp rfl rfl rfl rfl (fun _ => ?_) (fun _ => ?_)
        | refine AC_cond rfl (fun _ => ?_) (fun _ => ?_))
      rfl
    | inst g u =>
      rw [h] at hlk
      refine FC_intro hty Tryz.func10 rfl rfl rfl fun w0 => ?_
      repeat' (first
        | exact absurd rfl ‹_›
        | refine WL_call 0 rfl hck rfl rfl rfl ?_
        | refine WL_call 0 rfl htc rfl rfl rfl ?_
        | refine WL_call 0 rfl hlk rfl rfl rfl ?_
        | (refine WL_m rfl (m_neNil (v := rxAV (.inst g u)) ?_ rfl ?_ hfn41 rfl) ?_; (focus rfl); (focus rfl))
        | refine WL_p hty rfl rfl ?_
        | refine WL_nil ?_
        | refine AC_seq ?_
        | refine AC_region ?_
        | refine AC_block ?_
        | refine AC_skip ?_
        | refine AC_condT rfl ?_
        | refine AC_condF rfl ?_
        | refine AC_exit ?_
        | refine AC_ret ?_
        | refine WL_ung rfl rfl ?_
        | refine WL_offT rfl rfl rfl ?_
        | refine WL_offF rfl rfl rfl ?_
        | refine WL_offU rfl rfl rfl ?_
        | refine WL_m rfl (m_idxN hty rfl rfl rfl (by assumption) rfl) ?_
        | refine ends_bool rfl ?_
        | refine WL_cmp rfl rfl rfl rfl (fun _ => ?_) (fun _ => ?_)
        | refine AC_cond rfl (fun _ => ?_) (fun _ => ?_))
      rfl
    | done u =>
      rw [h] at hlk
      refine FC_intro hty Tryz.func10 rfl rfl rfl fun w0 => ?_
      repeat' (first
        | exact absurd rfl ‹_›
        | refine WL_call 0 rfl hck rfl rfl rfl ?_
        | refine WL_call 0 rfl htc rfl rfl rfl ?_
        | refine WL_call 0 rfl hlk rfl rfl rfl ?_
        | (refine WL_m rfl (m_neNil (v := rxAV (.done u)) ?_ rfl ?_ hfn41 rfl) ?_; (focus rfl); (focus rfl))
        | refine WL_p hty rfl rfl ?_
        | refine WL_nil ?_
        | refine AC_seq ?_
        | refine AC_region ?_
        | refine AC_block ?_
        | refine AC_skip ?_
        | refine AC_condT rfl ?_
        | refine AC_condF rfl ?_
        | refine AC_exit ?_
        | refine AC_ret ?_
        | refine WL_ung rfl rfl ?_
        | refine WL_offT rfl rfl rfl ?_
        | refine WL_offF rfl rfl rfl ?_
        | refine WL_offU rfl rfl rfl ?_
        | refine WL_m rfl (m_idxN hty rfl rfl rfl (by assumption) rfl) ?_
        | refine ends_bool rfl ?_
        | refine WL_cmp rfl rfl rfl rfl (fun _ => ?_) (fun _ => ?_)
        | refine AC_cond rfl (fun _ => ?_) (fun _ => ?_))
      rfl
  · refine FC_intro hty Tryz.func10 rfl rfl rfl fun w0 => ?_
    repeat' (first
      | exact absurd rfl ‹_›
      | exact absurd (by assumption) hc
      | refine WL_call 0 rfl hck rfl rfl rfl ?_
      | refine WL_call 0 rfl htc rfl rfl rfl ?_
      | refine WL_p hty rfl rfl ?_
      | refine WL_nil ?_
      | refine AC_seq ?_
      | refine AC_region ?_
      | refine AC_block ?_
      | refine AC_skip ?_
      | refine AC_condT rfl ?_
      | refine AC_condF rfl ?_
      | refine AC_exit ?_
      | refine AC_ret ?_
      | refine WL_ung rfl rfl ?_
      | refine WL_offT rfl rfl rfl ?_
      | refine WL_offF rfl rfl rfl ?_
      | refine WL_offU rfl rfl rfl ?_
      | refine WL_m rfl (m_idxN hty rfl rfl rfl (by assumption) rfl) ?_
      | refine ends_bool rfl ?_
      | refine WL_cmp rfl rfl rfl rfl (fun _ => ?_) (fun _ => ?_)
      | refine AC_cond rfl (fun _ => ?_) (fun _ => ?_))
    rw [decide_eq_false hc]; rfl

end Go.Proofs.YtpnjflimilamdaaGreat
