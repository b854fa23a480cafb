/-
  Arguments, constructors, codes are compared, field by field.
-/
import Derived.Test.YtgjoeoojplbhpaaKeep
namespace Go.Proofs.Ytgjoeoojplbhpaa
set_option linter.unusedSimpArgs false
set_option linter.unusedVariables false
open Go.Aw Go.RowKit
attribute [local irreducible] WL AC WD MStep OkOp

theorem kterms_spec' (la lb : List Tm) (h : sizes la ≤ 1048576) : FC Try.prog 23 [sT la, sT lb] (.bool (decide (la = lb))) := kterms_spec 1048576 (by omega) la lb h

theorem karg_spec (a b : Ar) (ha : a.size ≤ 1048576) : FC Try.prog 40 [aA a, aA b] (.bool (decide (a = b))) := by
  unfold Ar.size at ha
  refine FC_intro hty Try.func40 rfl rfl rfl fun w0 => ?_
  repeat' (first
    | refine WL_callB rfl (kterms_spec' _ _ (by omega)) rfl (fun _ => ?_) (fun _ => ?_)
    | refine WL_callB rfl (kterm_spec _ _ (by omega)) rfl (fun _ => ?_) (fun _ => ?_)
    | refine WL_eqB hty rfl rfl rfl rfl (fun _ => ?_) (fun _ => ?_)
    | refine WL_p hty rfl rfl ?_
    | refine WL_nil ?_
    | refine AC_seq ?_
    | refine AC_region ?_
    | refine AC_block ?_
    | refine AC_skip ?_
    | refine AC_condT rfl ?_
    | refine AC_condF rfl ?_
    | refine AC_exit ?_
    | refine AC_ret ?_
    | refine WL_ung rfl rfl ?_
    | refine WL_offT rfl rfl rfl ?_
    | refine WL_offF rfl rfl rfl ?_
    | refine WL_offU rfl rfl rfl ?_
    | refine WL_m rfl (m_idxN hty rfl rfl rfl (by assumption) rfl) ?_
    | refine ends_bool rfl ?_
    | refine WL_cmp rfl rfl rfl rfl (fun _ => ?_) (fun _ => ?_)
    | refine AC_cond rfl (fun _ => ?_) (fun _ => ?_))
  all_goals (cases a; cases b; simp_all)

theorem kargs_spec (la lb : List Ar) (ha : sizesA la ≤ 1048576) : FC Try.prog 31 [sA la, sA lb] (.bool (decide (la = lb))) := by
  have hla := len_le_sizesA la
  refine FC_intro hty Try.func31 rfl rfl rfl fun w0 => ?_
  repeat' (first
    | refine WL_p hty rfl rfl ?_
    | refine WL_nil ?_
    | refine AC_seq ?_
    | refine AC_region ?_
    | refine AC_block ?_
    | refine AC_skip ?_
    | refine AC_condT rfl ?_
    | refine AC_condF rfl ?_
    | refine AC_exit ?_
    | refine AC_ret ?_
    | refine WL_ung rfl rfl ?_
    | refine WL_offT rfl rfl rfl ?_
    | refine WL_offF rfl rfl rfl ?_
    | refine WL_offU rfl rfl rfl ?_
    | refine WL_m rfl (m_idxN hty rfl rfl rfl (by assumption) rfl) ?_
    | refine ends_bool rfl ?_
    | refine WL_cmp rfl rfl rfl rfl (fun _ => ?_) (fun _ => ?_)
    | refine AC_cond rfl (fun _ => ?_) (fun _ => ?_))
  · rename_i h
    exact (decide_eq_false fun q => h (by rw [q])).symm
  rename_i h
  rw [rsA_length, rsA_length] at h
  have h : la.length = lb.length := by omega
  refine AC_for la.length (fun j => la.take j = lb.take j) (fun j => ⟨envOf [(0, sA la), (1, sA lb), (5, .int .i64 (j : Nat))], bkOf []⟩)
    (less_sub ⟨⟨_, rfl, .inl ⟨.refl _, rfl⟩⟩, ⟨_, rfl, .inl ⟨.refl _, rfl⟩⟩, ⟨_, rfl, .inl ⟨.refl _, rfl⟩⟩, trivial⟩ trivial) rfl ?_
  intro j hj hI
  repeat' (first
    | refine WL_p hty rfl rfl ?_
    | refine WL_nil ?_
    | refine AC_seq ?_
    | refine AC_region ?_
    | refine AC_block ?_
    | refine AC_skip ?_
    | refine AC_condT rfl ?_
    | refine AC_condF rfl ?_
    | refine AC_exit ?_
    | refine AC_ret ?_
    | refine WL_ung rfl rfl ?_
    | refine WL_offT rfl rfl rfl ?_
    | refine WL_offF rfl rfl rfl ?_
    | refine WL_offU rfl rfl rfl ?_
    | refine WL_m rfl (m_idxN hty rfl rfl rfl (by assumption) rfl) ?_
    | refine ends_bool rfl ?_
    | refine WL_cmp rfl rfl rfl rfl (fun _ => ?_) (fun _ => ?_)
    | refine AC_cond rfl (fun _ => ?_) (fun _ => ?_))
  · rename_i hc
    rw [rsA_length] at hc
    have hlt : j < la.length := by omega
    obtain ⟨a, ha, hma⟩ := get_of_lt hlt
    obtain ⟨b, hb, _⟩ := get_of_lt (h ▸ hlt)
    have := size_le_sizesA hma
    have ra := rsA_get ha
    have rb := rsA_get hb
    refine AC_drawn [[], [], [0, 1], [0, 1, 2], [], [], [4, 5], [4, 5, 6], [0, 1, 2, 3, 4, 5, 6, 7], [0, 1, 2, 3, 4, 5, 6, 7, 8]] rfl rfl ?_
    repeat' (first
      | refine WD_cons (.inl ⟨rfl, m_call 0 rfl (karg_spec _ _ (by omega)) rfl rfl rfl⟩) ?_
      | refine WD_cons (.inl ⟨rfl, stepE_ok hty rfl rfl⟩) ?_
      | refine WD_cons (.inl ⟨rfl, m_idxN hty rfl rfl rfl (by assumption) rfl⟩) ?_
      | refine WD_ung rfl rfl ?_
      | refine WD_offT rfl rfl rfl ?_
      | refine WD_offF rfl rfl rfl ?_
      | refine WD_offU rfl rfl rfl ?_
      | refine WD_nil ⟨by kernel_rfl, ?_⟩
      | refine WL_p hty rfl rfl ?_
      | refine WL_nil ?_
      | refine AC_seq ?_
      | refine AC_region ?_
      | refine AC_block ?_
      | refine AC_skip ?_
      | refine AC_condT rfl ?_
      | refine AC_condF rfl ?_
      | refine AC_exit ?_
      | refine AC_ret ?_
      | refine WL_ung rfl rfl ?_
      | refine WL_offT rfl rfl rfl ?_
      | refine WL_offF rfl rfl rfl ?_
      | refine WL_offU rfl rfl rfl ?_
      | refine WL_m rfl (m_idxN hty rfl rfl rfl (by assumption) rfl) ?_
      | refine ends_bool rfl ?_
      | refine WL_cmp rfl rfl rfl rfl (fun _ => ?_) (fun _ => ?_)
      | refine AC_cond rfl (fun _ => ?_) (fun _ => ?_))
    · rename_i hab
      have hab : a ≠ b := by simpa using hab
      refine (decide_eq_false fun q => hab ?_).symm
      rw [q, hb] at ha
      exact (Option.some.inj ha).symm
    · rename_i hab
      have hab : a = b := by simpa using hab
      refine ⟨hlt, ?_, (less_sub ⟨⟨_, rfl, .inl ⟨.refl _, rfl⟩⟩, ⟨_, rfl, .inl ⟨.refl _, rfl⟩⟩, ⟨_, rfl, see_eq ?_ rfl⟩, trivial⟩ trivial)⟩
      · rw [List.take_add_one, List.take_add_one, hI, ha, hb, hab]
      · exact congrArg (AV.int .i64) ((wrap_ok (by omega) (by omega)).trans (by omega))
  · rename_i hc
    rw [rsA_length] at hc
    obtain rfl : j = la.length := by omega
    refine (decide_eq_true ?_).symm
    rw [List.take_length, h, List.take_length] at hI
    exact hI

theorem kcon_spec (a b : Cn) (ha : a.size ≤ 1048576) : FC Try.prog 19 [aC a, aC b] (.bool (decide (a = b))) := by
  unfold Cn.size at ha
  refine FC_intro hty Try.func19 rfl rfl rfl fun w0 => ?_
  repeat' (first
    | refine WL_callB rfl (kterms_spec' _ _ (by omega)) rfl (fun _ => ?_) (fun _ => ?_)
    | refine WL_callB rfl (kterm_spec _ _ (by omega)) rfl (fun _ => ?_) (fun _ => ?_)
    | refine WL_callB rfl (kargs_spec _ _ (by omega)) rfl (fun _ => ?_) (fun _ => ?_)
    | refine WL_p hty rfl rfl ?_
    | refine WL_nil ?_
    | refine AC_seq ?_
    | refine AC_region ?_
    | refine AC_block ?_
    | refine AC_skip ?_
    | refine AC_condT rfl ?_
    | refine AC_condF rfl ?_
    | refine AC_exit ?_
    | refine AC_ret ?_
    | refine WL_ung rfl rfl ?_
    | refine WL_offT rfl rfl rfl ?_
    | refine WL_offF rfl rfl rfl ?_
    | refine WL_offU rfl rfl rfl ?_
    | refine WL_m rfl (m_idxN hty rfl rfl rfl (by assumption) rfl) ?_
    | refine ends_bool rfl ?_
    | refine WL_cmp rfl rfl rfl rfl (fun _ => ?_) (fun _ => ?_)
    | refine AC_cond rfl (fun _ => ?_) (fun _ => ?_))
  all_goals (cases a; cases b; simp_all)

theorem kcodes_spec (la lb : List Cd) (ha : sizesD la ≤ 1048576) : FC Try.prog 12 [sD la, sD lb] (.bool (decide (la = lb))) := by
  have hla := len_le_sizesD la
  refine FC_intro hty Try.func12 rfl rfl rfl fun w0 => ?_
  repeat' (first
    | refine WL_p hty rfl rfl ?_
    | refine WL_nil ?_
    | refine AC_seq ?_
    | refine AC_region ?_
    | refine AC_block ?_
    | refine AC_skip ?_
    | refine AC_condT rfl ?_
    | refine AC_condF rfl ?_
    | refine AC_exit ?_
    | refine AC_ret ?_
    | refine WL_ung rfl rfl ?_
    | refine WL_offT rfl rfl rfl ?_
    | refine WL_offF rfl rfl rfl ?_
    | refine WL_offU rfl rfl rfl ?_
    | refine WL_m rfl (m_idxN hty rfl rfl rfl (by assumption) rfl) ?_
    | refine ends_bool rfl ?_
    | refine WL_cmp rfl rfl rfl rfl (fun _ => ?_) (fun _ => ?_)
    | refine AC_cond rfl (fun _ => ?_) (fun _ => ?_))
  · rename_i h
    exact (decide_eq_false fun q => h (by rw [q])).symm
  rename_i h
  rw [rsD_length, rsD_length] at h
  have h : la.length = lb.length := by omega
  refine AC_for la.length (fun j => la.take j = lb.take j) (fun j => ⟨envOf [(0, sD la), (1, sD lb), (5, .int .i64 (j : Nat))], bkOf []⟩)
    (less_sub ⟨⟨_, rfl, .inl ⟨.refl _, rfl⟩⟩, ⟨_, rfl, .inl ⟨.refl _, rfl⟩⟩, ⟨_, rfl, .inl ⟨.refl _, rfl⟩⟩, trivial⟩ trivial) rfl ?_
  intro j hj hI
  repeat' (first
    | refine WL_p hty rfl rfl ?_
    | refine WL_nil ?_
    | refine AC_seq ?_
    | refine AC_region ?_
    | refine AC_block ?_
    | refine AC_skip ?_
    | refine AC_condT rfl ?_
    | refine AC_condF rfl ?_
    | refine AC_exit ?_
    | refine AC_ret ?_
    | refine WL_ung rfl rfl ?_
    | refine WL_offT rfl rfl rfl ?_
    | refine WL_offF rfl rfl rfl ?_
    | refine WL_offU rfl rfl rfl ?_
    | refine WL_m rfl (m_idxN hty rfl rfl rfl (by assumption) rfl) ?_
    | refine ends_bool rfl ?_
    | refine WL_cmp rfl rfl rfl rfl (fun _ => ?_) (fun _ => ?_)
    | refine AC_cond rfl (fun _ => ?_) (fun _ => ?_))
  · rename_i hc
    rw [rsD_length] at hc
    have hlt : j < la.length := by omega
    obtain ⟨a, ha, hma⟩ := get_of_lt hlt
    obtain ⟨b, hb, _⟩ := get_of_lt (h ▸ hlt)
    have hsz := size_le_sizesD hma
    unfold Cd.size at hsz
    have ra := rsD_get ha
    have rb := rsD_get hb
    refine AC_drawn [[], [], [0, 1], [0, 1, 2], [], [], [4, 5], [4, 5, 6], [], [], [0, 1, 2, 3, 8, 9], [0, 1, 2, 3, 4, 5, 6, 7, 8, 9, 10]] rfl rfl ?_
    repeat' (first
      | refine WD_cons (.inl ⟨rfl, stepE_ok hty rfl rfl⟩) ?_
      | refine WD_cons (.inl ⟨rfl, m_idxN hty rfl rfl rfl (by assumption) rfl⟩) ?_
      | refine WD_nil ⟨by kernel_rfl, ?_⟩)
    refine AC_less (less_sub (l := [(0, _), (1, _), (5, _), (6, _), (7, _)]) (bl := [(6, _), (7, _)]) ⟨⟨_, rfl, .inl ⟨.refl _, rfl⟩⟩, ⟨_, rfl, .inl ⟨.refl _, rfl⟩⟩, ⟨_, rfl, .inl ⟨.refl _, rfl⟩⟩, ⟨_, rfl, .inl ⟨.refl _, rfl⟩⟩, ⟨_, rfl, .inl ⟨.refl _, rfl⟩⟩, trivial⟩ ⟨⟨⟨_, rfl, .refl _⟩, rfl⟩, ⟨⟨_, rfl, .refl _⟩, rfl⟩, trivial⟩) ?_
    repeat' (first
      | refine WL_callB rfl (kterms_spec' _ _ (by omega)) rfl (fun _ => ?_) (fun _ => ?_)
      | refine WL_callB rfl (kterm_spec _ _ (by omega)) rfl (fun _ => ?_) (fun _ => ?_)
      | refine WL_p hty rfl rfl ?_
      | refine WL_nil ?_
      | refine AC_seq ?_
      | refine AC_region ?_
      | refine AC_block ?_
      | refine AC_skip ?_
      | refine AC_condT rfl ?_
      | refine AC_condF rfl ?_
      | refine AC_exit ?_
      | refine AC_ret ?_
      | refine WL_ung rfl rfl ?_
      | refine WL_offT rfl rfl rfl ?_
      | refine WL_offF rfl rfl rfl ?_
      | refine WL_offU rfl rfl rfl ?_
      | refine WL_m rfl (m_idxN hty rfl rfl rfl (by assumption) rfl) ?_
      | refine ends_bool rfl ?_
      | refine WL_cmp rfl rfl rfl rfl (fun _ => ?_) (fun _ => ?_)
      | refine AC_cond rfl (fun _ => ?_) (fun _ => ?_))
    all_goals first
      | refine (decide_eq_false fun q => ?_).symm
        rw [q, hb] at ha
        cases Option.some.inj ha
        simp_all
        done
      | have hab : a = b := by cases a; cases b; simp_all
        refine ⟨hlt, ?_, (less_sub ⟨⟨_, rfl, .inl ⟨.refl _, rfl⟩⟩, ⟨_, rfl, .inl ⟨.refl _, rfl⟩⟩, ⟨_, rfl, see_eq ?_ rfl⟩, trivial⟩ trivial)⟩
        · rw [List.take_add_one, List.take_add_one, hI, ha, hb, hab]
        · exact congrArg (AV.int .i64) ((wrap_ok (by omega) (by omega)).trans (by omega))
  · rename_i hc
    rw [rsD_length] at hc
    obtain rfl : j = la.length := by omega
    refine (decide_eq_true ?_).symm
    rw [List.take_length, h, List.take_length] at hI
    exact hI

end Go.Proofs.Ytgjoeoojplbhpaa
