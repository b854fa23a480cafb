/-
  Terms, arguments, constructors are compared, field by field; sizes and depths are told.
-/
import Derived.Test.YtpnjflimilamdaaGreatAwTy
namespace Go.Proofs.YtpnjflimilamdaaGreat
set_option linter.unusedSimpArgs false
set_option linter.unusedVariables false
open Go.Aw Go.RowKit
attribute [local irreducible] WL AC WD MStep OkOp

theorem kterm_step (n : Nat) (ihs : ∀ la lb : List Tm, sizes la ≤ n → FC Tryz.prog 25 [sT la, sT lb] (.bool (decide (la = lb)))) (a b : Tm) (ha : a.size ≤ n + 1) : FC Tryz.prog 9 [aT a, aT b] (.bool (decide (a = b))) := by
  have hs := a.size_eq
  refine FC_intro hty Tryz.func9 rfl rfl rfl fun w0 => ?_
  repeat' (first
    | refine WL_call 0 rfl (ihs _ _ (by omega)) rfl rfl rfl ?_
    | refine WL_p hty rfl rfl ?_
    | refine WL_nil ?_
    | refine AC_seq ?_
    | refine AC_region ?_
    | refine AC_block ?_
    | refine AC_skip ?_
    | refine AC_condT rfl ?_
    | refine AC_condF rfl ?_
    | refine AC_exit ?_
    | refine AC_ret ?_
    | refine WL_ung rfl rfl ?_
    | refine WL_offT rfl rfl rfl ?_
    | refine WL_offF rfl rfl rfl ?_
    | refine WL_offU rfl rfl rfl ?_
    | refine WL_m rfl (m_idxN hty rfl rfl rfl (by assumption) rfl) ?_
    | refine ends_bool rfl ?_
    | refine WL_cmp rfl rfl rfl rfl (fun _ => ?_) (fun _ => ?_)
    | refine AC_cond rfl (fun _ => ?_) (fun _ => ?_))
  · exact decide_eq_decide.2 ⟨fun h => Tm.ext ‹_› ‹_› h, fun h => by rw [h]⟩
  · exact (decide_eq_false fun h => by subst h; contradiction).symm
  · exact (decide_eq_false fun h => by subst h; contradiction).symm

theorem kterms_step (n : Nat) (hn : n ≤ 1048576) (ih : ∀ a b : Tm, a.size ≤ n → FC Tryz.prog 9 [aT a, aT b] (.bool (decide (a = b)))) (la lb : List Tm) (ha : sizes la ≤ n) : FC Tryz.prog 25 [sT la, sT lb] (.bool (decide (la = lb))) := by
  have hla := len_le_sizes la
  refine FC_intro hty Tryz.func25 rfl rfl rfl fun w0 => ?_
  repeat' (first
    | refine WL_p hty rfl rfl ?_
    | refine WL_nil ?_
    | refine AC_seq ?_
    | refine AC_region ?_
    | refine AC_block ?_
    | refine AC_skip ?_
    | refine AC_condT rfl ?_
    | refine AC_condF rfl ?_
    | refine AC_exit ?_
    | refine AC_ret ?_
    | refine WL_ung rfl rfl ?_
    | refine WL_offT rfl rfl rfl ?_
    | refine WL_offF rfl rfl rfl ?_
    | refine WL_offU rfl rfl rfl ?_
    | refine WL_m rfl (m_idxN hty rfl rfl rfl (by assumption) rfl) ?_
    | refine ends_bool rfl ?_
    | refine WL_cmp rfl rfl rfl rfl (fun _ => ?_) (fun _ => ?_)
    | refine AC_cond rfl (fun _ => ?_) (fun _ => ?_))
  · rename_i h
    exact (decide_eq_false fun q => h (by rw [q])).symm
  rename_i h
  rw [rsT_length, rsT_length] at h
  have h : la.length = lb.length := by omega
  refine AC_for la.length (fun j => la.take j = lb.take j) (fun j => ⟨envOf [(0, sT la), (1, sT lb), (5, .int .i64 (j : Nat))], bkOf []⟩)
    (less_sub ⟨⟨_, rfl, .inl ⟨.refl _, rfl⟩⟩, ⟨_, rfl, .inl ⟨.refl _, rfl⟩⟩, ⟨_, rfl, .inl ⟨.refl _, rfl⟩⟩, trivial⟩ trivial) rfl ?_
  intro j hj hI
  repeat' (first
    | refine WL_p hty rfl rfl ?_
    | refine WL_nil ?_
    | refine AC_seq ?_
    | refine AC_region ?_
    | refine AC_block ?_
    | refine AC_skip ?_
    | refine AC_condT rfl ?_
    | refine AC_condF rfl ?_
    | refine AC_exit ?_
    | refine AC_ret ?_
    | refine WL_ung rfl rfl ?_
    | refine WL_offT rfl rfl rfl ?_
    | refine WL_offF rfl rfl rfl ?_
    | refine WL_offU rfl rfl rfl ?_
    | refine WL_m rfl (m_idxN hty rfl rfl rfl (by assumption) rfl) ?_
    | refine ends_bool rfl ?_
    | refine WL_cmp rfl rfl rfl rfl (fun _ => ?_) (fun _ => ?_)
    | refine AC_cond rfl (fun _ => ?_) (fun _ => ?_))
  · rename_i hc
    rw [rsT_length] at hc
    have hlt : j < la.length := by omega
    obtain ⟨a, ha, hma⟩ := get_of_lt hlt
    obtain ⟨b, hb, _⟩ := get_of_lt (h ▸ hlt)
    have := size_le_sizes hma
    have ra := rsT_get ha
    have rb := rsT_get hb
    refine AC_drawn [[], [], [0, 1], [0, 1, 2], [], [], [4, 5], [4, 5, 6], [0, 1, 2, 3, 4, 5, 6, 7], [0, 1, 2, 3, 4, 5, 6, 7, 8]] rfl rfl ?_
    repeat' (first
      | refine WD_cons (.inl ⟨rfl, m_call 0 rfl (ih _ _ (by omega)) rfl rfl rfl⟩) ?_
      | refine WD_cons (.inl ⟨rfl, stepE_ok hty rfl rfl⟩) ?_
      | refine WD_cons (.inl ⟨rfl, m_idxN hty rfl rfl rfl (by assumption) rfl⟩) ?_
      | refine WD_ung rfl rfl ?_
      | refine WD_offT rfl rfl rfl ?_
      | refine WD_offF rfl rfl rfl ?_
      | refine WD_offU rfl rfl rfl ?_
      | refine WD_nil ⟨by kernel_rfl, ?_⟩
      | refine WL_p hty rfl rfl ?_
      | refine WL_nil ?_
      | refine AC_seq ?_
      | refine AC_region ?_
      | refine AC_block ?_
      | refine AC_skip ?_
      | refine AC_condT rfl ?_
      | refine AC_condF rfl ?_
      | refine AC_exit ?_
      | refine AC_ret ?_
      | refine WL_ung rfl rfl ?_
      | refine WL_offT rfl rfl rfl ?_
      | refine WL_offF rfl rfl rfl ?_
      | refine WL_offU rfl rfl rfl ?_
      | refine WL_m rfl (m_idxN hty rfl rfl rfl (by assumption) rfl) ?_
      | refine ends_bool rfl ?_
      | refine WL_cmp rfl rfl rfl rfl (fun _ => ?_) (fun _ => ?_)
      | refine AC_cond rfl (fun _ => ?_) (fun _ => ?_))
    · rename_i hab
      have hab : a ≠ b := by simpa using hab
      refine (decide_eq_false fun q => hab ?_).symm
      rw [q, hb] at ha
      exact (Option.some.inj ha).symm
    · rename_i hab
      have hab : a = b := by simpa using hab
      refine ⟨hlt, ?_, (less_sub ⟨⟨_, rfl, .inl ⟨.refl _, rfl⟩⟩, ⟨_, rfl, .inl ⟨.refl _, rfl⟩⟩, ⟨_, rfl, see_eq ?_ rfl⟩, trivial⟩ trivial)⟩
      · rw [List.take_add_one, List.take_add_one, hI, ha, hb, hab]
      · exact congrArg (AV.int .i64) ((wrap_ok (by omega) (by omega)).trans (by omega))
  · rename_i hc
    rw [rsT_length] at hc
    obtain rfl : j = la.length := by omega
    refine (decide_eq_true ?_).symm
    rw [List.take_length, h, List.take_length] at hI
    exact hI

theorem kterms_spec : ∀ n, n ≤ 1048576 → ∀ la lb : List Tm, sizes la ≤ n → FC Tryz.prog 25 [sT la, sT lb] (.bool (decide (la = lb))) := by
  intro n
  induction n with
  | zero => exact fun hn => kterms_step 0 hn (fun a b h => absurd a.size_pos (by omega))
  | succ n ih => exact fun hn => kterms_step (n + 1) hn (kterm_step n (ih (by omega)))
theorem kterm_spec (a b : Tm) (h : a.size ≤ 1048576) : FC Tryz.prog 9 [aT a, aT b] (.bool (decide (a = b))) :=
  kterm_step 1048576 (kterms_spec 1048576 (by omega)) a b (by omega)

end Go.Proofs.YtpnjflimilamdaaGreat
