/-
  What a term's root is reduced to, over no constants: Look, Root, Is.
-/
import Derived.Test.YtpnjflimilamdaaGreatRule0
namespace Go.Proofs.YtpnjflimilamdaaGreat
set_option linter.unusedSimpArgs false
set_option linter.unusedVariables false
open Go.Aw Go.RowKit
attribute [local irreducible] WL AC WD MStep OkOp

theorem spN_formed : ∀ (n : Nat) (t : Tm) (acc : List Tm), formedT t = true → formedT (spN n t acc).1 = true
  | 0, t, acc, h => h
  | n + 1, t, acc, h => by
    by_cases h2 : twoB t 6 = true
    · obtain ⟨f, a, hk⟩ := two_kids h2
      rw [spN_step h2 hk]
      exact spN_formed n f _ (formedT_kids h (by rw [hk]; exact List.mem_cons_self))
    · have h2 : twoB t 6 = false := by simpa using h2
      rw [spN_end h2]; exact h
theorem formedT_num {t : Tm} (h : formedT t = true) : 0 ≤ t.num := by
  rw [formedT_eq] at h
  simp only [Bool.and_eq_true, Bool.or_eq_true, decide_eq_true_eq, inR] at h
  obtain ⟨⟨_, h2, h3⟩, _⟩ := h
  rcases h2 with h2 | h2
  · rcases h3 with h3 | h3
    · exact absurd h3 h2
    · omega
  · exact h2.1
theorem formedT_len {t : Tm} (h : formedT t = true) : (t.kids.length : Int) = kidsR t.kind := by
  rw [formedT_eq] at h
  simp only [Bool.and_eq_true, decide_eq_true_eq] at h
  exact h.1.1

theorem spine0_spec (t : Tm) (hs : t.size ≤ 1048576) (hfm : formedT t = true) : FC Tryz.prog 37 [sE [], aT t] .nilf := by
  have hsp := split_spec t hs
  have hof := of_spec [] (splitT t).1 (by simp) (fun _ => formedT_num (spN_formed t.size t [] hfm))
  have he : ofE [] (splitT t).1 = none := by unfold ofE; split <;> rfl
  rw [he] at hof
  refine FC_intro hty Tryz.func37 rfl rfl rfl fun w0 => ?_
  repeat' (first
    | refine WL_call 0 rfl hsp rfl rfl rfl ?_
    | refine WL_call 0 rfl hof rfl rfl rfl ?_
    | refine WL_p hty rfl rfl ?_
    | refine WL_nil ?_
    | refine AC_seq ?_
    | refine AC_region ?_
    | refine AC_block ?_
    | refine AC_skip ?_
    | refine AC_condT rfl ?_
    | refine AC_condF rfl ?_
    | refine AC_exit ?_
    | refine AC_ret ?_
    | refine WL_ung rfl rfl ?_
    | refine WL_offT rfl rfl rfl ?_
    | refine WL_offF rfl rfl rfl ?_
    | refine WL_offU rfl rfl rfl ?_
    | refine WL_m rfl (m_idxN hty rfl rfl rfl (by assumption) rfl) ?_
    | refine ends_bool rfl ?_
    | refine WL_cmp rfl rfl rfl rfl (fun _ => ?_) (fun _ => ?_)
    | refine AC_cond rfl (fun _ => ?_) (fun _ => ?_))
  exact ends_wk rfl rfl (.refl _)

def look0 (t : Tm) : Rx :=
  if t.kind = 6 then (match t.kids with
    | [f, _] => if f.kind = 5 then .inst f t else .none
    | _ => .none)
  else if t.kind = 9 then (match t.kids with
    | [p] => if p.kind = 8 then .done (p.kids.getD 1 zT) else .none
    | _ => .none)
  else if t.kind = 10 then (match t.kids with
    | [p] => if p.kind = 8 then .done (p.kids.getD 2 zT) else .none
    | _ => .none)
  else if t.kind = 13 then (match t.kids with
    | [_, b, r] => if r.kind = 12 then .done (.mk 6 0 [b, r.kids.getD 1 zT]) else .none
    | _ => .none)
  else .none

theorem kids2 {l : List Tm} (h : (l.length : Int) = 2) : ∃ a b, l = [a, b] := by
  match l, h with
  | [a, b], _ => exact ⟨a, b, rfl⟩
  | [], h => simp at h
  | [_], h => simp at h
  | _ :: _ :: _ :: _, h => simp at h; omega
theorem kids1 {l : List Tm} (h : (l.length : Int) = 1) : ∃ a, l = [a] := by
  match l, h with
  | [a], _ => exact ⟨a, rfl⟩
  | [], h => simp at h
  | _ :: _ :: _, h => simp at h; omega
theorem kids3 {l : List Tm} (h : (l.length : Int) = 3) : ∃ a b c, l = [a, b, c] := by
  match l, h with
  | [a, b, c], _ => exact ⟨a, b, c, rfl⟩
  | [], h => simp at h
  | [_], h => simp at h
  | [_, _], h => simp at h
  | _ :: _ :: _ :: _ :: _, h => simp at h; omega

set_option maxHeartbeats 4000000 in
theorem look0_spec (t : Tm) (hs : t.size ≤ 1048576) (hfm : formedT t = true) : FC Tryz.prog 17 [sE [], aT t] (rxAV (look0 t)) := by
  have hsz := t.size_eq
  have hlen := formedT_len hfm
  have hspn := spine0_spec t hs hfm
  by_cases k6 : t.kind = 6
  · obtain ⟨f, a, hk⟩ := kids2 (l := t.kids) (by rw [hlen, k6]; rfl)
    have r0 : (rsT t.kids)[0]? = some (cT f) := by rw [hk, rs2]; rfl
    have hl : look0 t = if f.kind = 5 then .inst f t else .none := by unfold look0; simp only [k6, hk]; rfl
    rw [hl]
    by_cases hf : f.kind = 5
    · rw [if_pos hf]
      refine FC_intro hty Tryz.func17 rfl rfl rfl fun w0 => ?_
      repeat' (first
        | exact absurd k6 ‹_›
        | exact absurd hf ‹_›
        | refine WL_m rfl (m_idxN (i := 0) hty rfl rfl rfl r0 rfl) ?_
        | (refine WL_less (less_freezeBox 5 rfl rfl) ?_; refine WL_less (less_freezeBox 3 rfl rfl) ?_; refine WL_m rfl (m_makeFunc rfl rfl rfl) ?_)
        | refine WL_p hty rfl rfl ?_
        | refine WL_nil ?_
        | refine AC_seq ?_
        | refine AC_region ?_
        | refine AC_block ?_
        | refine AC_skip ?_
        | refine AC_condT rfl ?_
        | refine AC_condF rfl ?_
        | refine AC_exit ?_
        | refine AC_ret ?_
        | refine WL_ung rfl rfl ?_
        | refine WL_offT rfl rfl rfl ?_
        | refine WL_offF rfl rfl rfl ?_
        | refine WL_offU rfl rfl rfl ?_
        | refine WL_m rfl (m_idxN hty rfl rfl rfl (by assumption) rfl) ?_
        | refine ends_bool rfl ?_
        | refine WL_cmp rfl rfl rfl rfl (fun _ => ?_) (fun _ => ?_)
        | refine AC_cond rfl (fun _ => ?_) (fun _ => ?_))
      exact ends_wk rfl rfl (.refl _)
    · rw [if_neg hf]
      refine FC_intro hty Tryz.func17 rfl rfl rfl fun w0 => ?_
      repeat' (first
        | exact absurd k6 ‹_›
        | exact absurd (by assumption) hf
        | refine WL_m rfl (m_idxN (i := 0) hty rfl rfl rfl r0 rfl) ?_
        | refine WL_call 0 rfl hspn rfl rfl rfl ?_
        | refine WL_p hty rfl rfl ?_
        | refine WL_nil ?_
        | refine AC_seq ?_
        | refine AC_region ?_
        | refine AC_block ?_
        | refine AC_skip ?_
        | refine AC_condT rfl ?_
        | refine AC_condF rfl ?_
        | refine AC_exit ?_
        | refine AC_ret ?_
        | refine WL_ung rfl rfl ?_
        | refine WL_offT rfl rfl rfl ?_
        | refine WL_offF rfl rfl rfl ?_
        | refine WL_offU rfl rfl rfl ?_
        | refine WL_m rfl (m_idxN hty rfl rfl rfl (by assumption) rfl) ?_
        | refine ends_bool rfl ?_
        | refine WL_cmp rfl rfl rfl rfl (fun _ => ?_) (fun _ => ?_)
        | refine AC_cond rfl (fun _ => ?_) (fun _ => ?_))
      exact ends_wk rfl rfl (.refl _)
  by_cases k9 : t.kind = 9
  · obtain ⟨p, hk⟩ := kids1 (l := t.kids) (by rw [hlen, k9]; rfl)
    have r0 : (rsT t.kids)[0]? = some (cT p) := by rw [hk, rs1]; rfl
    have hl : look0 t = if p.kind = 8 then .done (p.kids.getD 1 zT) else .none := by unfold look0; simp only [k9, hk]; rfl
    rw [hl]
    by_cases hp : p.kind = 8
    · have hpf := formedT_kids hfm (show p ∈ t.kids by rw [hk]; exact List.mem_cons_self)
      obtain ⟨x, y, z, hpk⟩ := kids3 (l := p.kids) (by rw [formedT_len hpf, hp]; rfl)
      have q1 : (rsT p.kids)[1]? = some (cT y) := by rw [hpk, rs3]; rfl
      rw [if_pos hp, hpk]
      refine FC_intro hty Tryz.func17 rfl rfl rfl fun w0 => ?_
      repeat' (first
        | exact absurd (by assumption) k6
        | exact absurd k9 ‹_›
        | exact absurd hp ‹_›
        | refine WL_m rfl (m_idxN (i := 0) hty rfl rfl rfl r0 rfl) ?_
        | refine WL_m rfl (m_idxN (i := 1) hty rfl rfl rfl q1 rfl) ?_
        | refine WL_call 0 rfl (done_spec y) rfl rfl rfl ?_
        | refine WL_p hty rfl rfl ?_
        | refine WL_nil ?_
        | refine AC_seq ?_
        | refine AC_region ?_
        | refine AC_block ?_
        | refine AC_skip ?_
        | refine AC_condT rfl ?_
        | refine AC_condF rfl ?_
        | refine AC_exit ?_
        | refine AC_ret ?_
        | refine WL_ung rfl rfl ?_
        | refine WL_offT rfl rfl rfl ?_
        | refine WL_offF rfl rfl rfl ?_
        | refine WL_offU rfl rfl rfl ?_
        | refine WL_m rfl (m_idxN hty rfl rfl rfl (by assumption) rfl) ?_
        | refine ends_bool rfl ?_
        | refine WL_cmp rfl rfl rfl rfl (fun _ => ?_) (fun _ => ?_)
        | refine AC_cond rfl (fun _ => ?_) (fun _ => ?_))
      exact ends_wk rfl rfl (.refl _)
    · rw [if_neg hp]
      refine FC_intro hty Tryz.func17 rfl rfl rfl fun w0 => ?_
      repeat' (first
        | exact absurd (by assumption) k6
        | exact absurd k9 ‹_›
        | exact absurd (by assumption) hp
        | refine WL_m rfl (m_idxN (i := 0) hty rfl rfl rfl r0 rfl) ?_
        | refine WL_p hty rfl rfl ?_
        | refine WL_nil ?_
        | refine AC_seq ?_
        | refine AC_region ?_
        | refine AC_block ?_
        | refine AC_skip ?_
        | refine AC_condT rfl ?_
        | refine AC_condF rfl ?_
        | refine AC_exit ?_
        | refine AC_ret ?_
        | refine WL_ung rfl rfl ?_
        | refine WL_offT rfl rfl rfl ?_
        | refine WL_offF rfl rfl rfl ?_
        | refine WL_offU rfl rfl rfl ?_
        | refine WL_m rfl (m_idxN hty rfl rfl rfl (by assumption) rfl) ?_
        | refine ends_bool rfl ?_
        | refine WL_cmp rfl rfl rfl rfl (fun _ => ?_) (fun _ => ?_)
        | refine AC_cond rfl (fun _ => ?_) (fun _ => ?_))
      exact ends_wk rfl rfl (.refl _)
  by_cases k10 : t.kind = 10
  · obtain ⟨p, hk⟩ := kids1 (l := t.kids) (by rw [hlen, k10]; rfl)
    have r0 : (rsT t.kids)[0]? = some (cT p) := by rw [hk, rs1]; rfl
    have hl : look0 t = if p.kind = 8 then .done (p.kids.getD 2 zT) else .none := by unfold look0; simp only [k10, hk]; rfl
    rw [hl]
    by_cases hp : p.kind = 8
    · have hpf := formedT_kids hfm (show p ∈ t.kids by rw [hk]; exact List.mem_cons_self)
      obtain ⟨x, y, z, hpk⟩ := kids3 (l := p.kids) (by rw [formedT_len hpf, hp]; rfl)
      have q1 : (rsT p.kids)[2]? = some (cT z) := by rw [hpk, rs3]; rfl
      rw [if_pos hp, hpk]
      refine FC_intro hty Tryz.func17 rfl rfl rfl fun w0 => ?_
      repeat' (first
        | exact absurd (by assumption) k6
        | exact absurd (by assumption) k9
        | exact absurd k10 ‹_›
        | exact absurd hp ‹_›
        | refine WL_m rfl (m_idxN (i := 0) hty rfl rfl rfl r0 rfl) ?_
        | refine WL_m rfl (m_idxN (i := 2) hty rfl rfl rfl q1 rfl) ?_
        | refine WL_call 0 rfl (done_spec z) rfl rfl rfl ?_
        | refine WL_p hty rfl rfl ?_
        | refine WL_nil ?_
        | refine AC_seq ?_
        | refine AC_region ?_
        | refine AC_block ?_
        | refine AC_skip ?_
        | refine AC_condT rfl ?_
        | refine AC_condF rfl ?_
        | refine AC_exit ?_
        | refine AC_ret ?_
        | refine WL_ung rfl rfl ?_
        | refine WL_offT rfl rfl rfl ?_
        | refine WL_offF rfl rfl rfl ?_
        | refine WL_offU rfl rfl rfl ?_
        | refine WL_m rfl (m_idxN hty rfl rfl rfl (by assumption) rfl) ?_
        | refine ends_bool rfl ?_
        | refine WL_cmp rfl rfl rfl rfl (fun _ => ?_) (fun _ => ?_)
        | refine AC_cond rfl (fun _ => ?_) (fun _ => ?_))
      exact ends_wk rfl rfl (.refl _)
    · rw [if_neg hp]
      refine FC_intro hty Tryz.func17 rfl rfl rfl fun w0 => ?_
      repeat' (first
        | exact absurd (by assumption) k6
        | exact absurd (by assumption) k9
        | exact absurd k10 ‹_›
        | exact absurd (by assumption) hp
        | refine WL_m rfl (m_idxN (i := 0) hty rfl rfl rfl r0 rfl) ?_
        | refine WL_p hty rfl rfl ?_
        | refine WL_nil ?_
        | refine AC_seq ?_
        | refine AC_region ?_
        | refine AC_block ?_
        | refine AC_skip ?_
        | refine AC_condT rfl ?_
        | refine AC_condF rfl ?_
        | refine AC_exit ?_
        | refine AC_ret ?_
        | refine WL_ung rfl rfl ?_
        | refine WL_offT rfl rfl rfl ?_
        | refine WL_offF rfl rfl rfl ?_
        | refine WL_offU rfl rfl rfl ?_
        | refine WL_m rfl (m_idxN hty rfl rfl rfl (by assumption) rfl) ?_
        | refine ends_bool rfl ?_
        | refine WL_cmp rfl rfl rfl rfl (fun _ => ?_) (fun _ => ?_)
        | refine AC_cond rfl (fun _ => ?_) (fun _ => ?_))
      exact ends_wk rfl rfl (.refl _)
  by_cases k13 : t.kind = 13
  · obtain ⟨a, b, r, hk⟩ := kids3 (l := t.kids) (by rw [hlen, k13]; rfl)
    have r1 : (rsT t.kids)[1]? = some (cT b) := by rw [hk, rs3]; rfl
    have r2 : (rsT t.kids)[2]? = some (cT r) := by rw [hk, rs3]; rfl
    have hl : look0 t = if r.kind = 12 then .done (.mk 6 0 [b, r.kids.getD 1 zT]) else .none := by unfold look0; simp only [k13, hk]; rfl
    rw [hl]
    by_cases hp : r.kind = 12
    · have hpf := formedT_kids hfm (show r ∈ t.kids by rw [hk]; simp)
      obtain ⟨x, y, hpk⟩ := kids2 (l := r.kids) (by rw [formedT_len hpf, hp]; rfl)
      have q1 : (rsT r.kids)[1]? = some (cT y) := by rw [hpk, rs2]; rfl
      rw [if_pos hp, hpk]
      have hnd := (tnode_spec 6 [b, y]).args (xs := [.int .i64 6, .lst 3 [cT b, cT y] true]) (.cons (.refl _) (.cons (by rw [← rs2]; exact .full _ _ _) .nil))
      refine FC_intro hty Tryz.func17 rfl rfl rfl fun w0 => ?_
      repeat' (first
        | exact absurd (by assumption) k6
        | exact absurd (by assumption) k9
        | exact absurd (by assumption) k10
        | exact absurd k13 ‹_›
        | exact absurd hp ‹_›
        | refine WL_m rfl (m_idxN (i := 2) hty rfl rfl rfl r2 rfl) ?_
        | refine AC_drawn [[], [0], [0, 1], [0, 1, 2], [], [4], [4, 5], [4, 5, 6], [4, 5, 6, 7], [4, 5, 6, 7, 8], [4, 5, 6, 7, 8, 9], [0, 1, 2, 3, 4, 5, 6, 7, 8, 9, 10], [0, 1, 2, 3, 4, 5, 6, 7, 8, 9, 10, 11], [0, 1, 2, 3, 4, 5, 6, 7, 8, 9, 10, 11, 12], [0, 1, 2, 3, 4, 5, 6, 7, 8, 9, 10, 11, 12, 13]] rfl rfl ?_
        | refine WD_cons (.inl ⟨rfl, m_idxN (i := 1) hty rfl rfl rfl r1 rfl⟩) ?_
        | refine WD_cons (.inl ⟨rfl, m_idxN (i := 2) hty rfl rfl rfl r2 rfl⟩) ?_
        | refine WD_cons (.inl ⟨rfl, m_idxN (i := 1) hty rfl rfl rfl q1 rfl⟩) ?_
        | refine WD_cons (.inl ⟨rfl, m_call 0 rfl hnd rfl rfl rfl⟩) ?_
        | refine WD_cons (.inl ⟨rfl, m_call 0 rfl (done_spec _) rfl rfl rfl⟩) ?_
        | refine WD_cons (.inl ⟨rfl, stepE_ok hty rfl rfl⟩) ?_
        | refine WD_cons (.inl ⟨rfl, m_idxN hty rfl rfl rfl (by assumption) rfl⟩) ?_
        | refine WD_ung rfl rfl ?_
        | refine WD_offT rfl rfl rfl ?_
        | refine WD_offF rfl rfl rfl ?_
        | refine WD_offU rfl rfl rfl ?_
        | refine WD_nil ⟨by kernel_rfl, ?_⟩
        | refine WL_p hty rfl rfl ?_
        | refine WL_nil ?_
        | refine AC_seq ?_
        | refine AC_region ?_
        | refine AC_block ?_
        | refine AC_skip ?_
        | refine AC_condT rfl ?_
        | refine AC_condF rfl ?_
        | refine AC_exit ?_
        | refine AC_ret ?_
        | refine WL_ung rfl rfl ?_
        | refine WL_offT rfl rfl rfl ?_
        | refine WL_offF rfl rfl rfl ?_
        | refine WL_offU rfl rfl rfl ?_
        | refine WL_m rfl (m_idxN hty rfl rfl rfl (by assumption) rfl) ?_
        | refine ends_bool rfl ?_
        | refine WL_cmp rfl rfl rfl rfl (fun _ => ?_) (fun _ => ?_)
        | refine AC_cond rfl (fun _ => ?_) (fun _ => ?_))
      exact ends_wk rfl rfl (.refl _)
    · rw [if_neg hp]
      refine FC_intro hty Tryz.func17 rfl rfl rfl fun w0 => ?_
      repeat' (first
        | exact absurd (by assumption) k6
        | exact absurd (by assumption) k9
        | exact absurd (by assumption) k10
        | exact absurd k13 ‹_›
        | exact absurd (by assumption) hp
        | refine WL_m rfl (m_idxN (i := 2) hty rfl rfl rfl r2 rfl) ?_
        | refine WL_p hty rfl rfl ?_
        | refine WL_nil ?_
        | refine AC_seq ?_
        | refine AC_region ?_
        | refine AC_block ?_
        | refine AC_skip ?_
        | refine AC_condT rfl ?_
        | refine AC_condF rfl ?_
        | refine AC_exit ?_
        | refine AC_ret ?_
        | refine WL_ung rfl rfl ?_
        | refine WL_offT rfl rfl rfl ?_
        | refine WL_offF rfl rfl rfl ?_
        | refine WL_offU rfl rfl rfl ?_
        | refine WL_m rfl (m_idxN hty rfl rfl rfl (by assumption) rfl) ?_
        | refine ends_bool rfl ?_
        | refine WL_cmp rfl rfl rfl rfl (fun _ => ?_) (fun _ => ?_)
        | refine AC_cond rfl (fun _ => ?_) (fun _ => ?_))
      exact ends_wk rfl rfl (.refl _)
  have hl : look0 t = .none := by
    unfold look0
    rw [if_neg k6, if_neg k9, if_neg k10, if_neg k13]
  rw [hl]
  by_cases k3 : t.kind = 3
  · have hof := of_spec [] t (by simp) (fun _ => formedT_num hfm)
    have he : ofE [] t = none := by unfold ofE; split <;> rfl
    rw [he] at hof
    refine FC_intro hty Tryz.func17 rfl rfl rfl fun w0 => ?_
    repeat' (first
      | exact absurd (by assumption) k6
      | exact absurd (by assumption) k9
      | exact absurd (by assumption) k10
      | exact absurd (by assumption) k13
      | exact absurd k3 ‹_›
      | refine WL_call 0 rfl hof rfl rfl rfl ?_
      | refine WL_p hty rfl rfl ?_
      | refine WL_nil ?_
      | refine AC_seq ?_
      | refine AC_region ?_
      | refine AC_block ?_
      | refine AC_skip ?_
      | refine AC_condT rfl ?_
      | refine AC_condF rfl ?_
      | refine AC_exit ?_
      | refine AC_ret ?_
      | refine WL_ung rfl rfl ?_
      | refine WL_offT rfl rfl rfl ?_
      | refine WL_offF rfl rfl rfl ?_
      | refine WL_offU rfl rfl rfl ?_
      | refine WL_m rfl (m_idxN hty rfl rfl rfl (by assumption) rfl) ?_
      | refine ends_bool rfl ?_
      | refine WL_cmp rfl rfl rfl rfl (fun _ => ?_) (fun _ => ?_)
      | refine AC_cond rfl (fun _ => ?_) (fun _ => ?_))
    exact ends_wk rfl rfl (.refl _)
  · refine FC_intro hty Tryz.func17 rfl rfl rfl fun w0 => ?_
    repeat' (first
      | exact absurd (by assumption) k6
      | exact absurd (by assumption) k9
      | exact absurd (by assumption) k10
      | exact absurd (by assumption) k13
      | exact absurd (by assumption) k3
      | refine WL_p hty rfl rfl ?_
      | refine WL_nil ?_
      | refine AC_seq ?_
      | refine AC_region ?_
      | refine AC_block ?_
      | refine AC_skip ?_
      | refine AC_condT rfl ?_
      | refine AC_condF rfl ?_
      | refine AC_exit ?_
      | refine AC_ret ?_
      | refine WL_ung rfl rfl ?_
      | refine WL_offT rfl rfl rfl ?_
      | refine WL_offF rfl rfl rfl ?_
      | refine WL_offU rfl rfl rfl ?_
      | refine WL_m rfl (m_idxN hty rfl rfl rfl (by assumption) rfl) ?_
      | refine ends_bool rfl ?_
      | refine WL_cmp rfl rfl rfl rfl (fun _ => ?_) (fun _ => ?_)
      | refine AC_cond rfl (fun _ => ?_) (fun _ => ?_))
    exact ends_wk rfl rfl (.refl _)

end Go.Proofs.YtpnjflimilamdaaGreat
