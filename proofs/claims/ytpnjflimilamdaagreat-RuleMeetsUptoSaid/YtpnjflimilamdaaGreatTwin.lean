/-
  Terms are told anew: the same, in memory of their own.
-/
import Derived.Test.YtpnjflimilamdaaGreatAwTy
namespace Go.Proofs.YtpnjflimilamdaaGreat
set_option linter.unusedSimpArgs false
set_option linter.unusedVariables false
open Go.Aw Go.RowKit
attribute [local irreducible] WL AC WD MStep OkOp

theorem twin_step (n : Nat) (ihs : ∀ l : List Tm, sizes l ≤ n → FC Tryz.prog 41 [sT l] (sT l)) (t : Tm) (h : t.size ≤ n + 1) : FC Tryz.prog 18 [aT t] (aT t) := by
  have hs := t.size_eq
  refine FC_intro hty Tryz.func18 rfl rfl rfl fun w0 => ?_
  repeat' (first
    | refine WL_call 0 rfl (ihs _ (by omega)) rfl rfl rfl ?_
    | refine WL_p hty rfl rfl ?_
    | refine WL_nil ?_
    | refine AC_seq ?_
    | refine AC_region ?_
    | refine AC_block ?_
    | refine AC_skip ?_
    | refine AC_condT rfl ?_
    | refine AC_condF rfl ?_
    | refine AC_exit ?_
    | refine AC_ret ?_
    | refine WL_ung rfl rfl ?_
    | refine WL_offT rfl rfl rfl ?_
    | refine WL_offF rfl rfl rfl ?_
    | refine WL_offU rfl rfl rfl ?_
    | refine WL_m rfl (m_idxN hty rfl rfl rfl (by assumption) rfl) ?_
    | refine ends_bool rfl ?_
    | refine WL_cmp rfl rfl rfl rfl (fun _ => ?_) (fun _ => ?_)
    | refine AC_cond rfl (fun _ => ?_) (fun _ => ?_))
  exact ends_is rfl rfl rfl

theorem twins_step (n : Nat) (hn : n ≤ 1048576) (ih : ∀ t : Tm, t.size ≤ n → FC Tryz.prog 18 [aT t] (aT t)) (l : List Tm) (h : sizes l ≤ n) : FC Tryz.prog 41 [sT l] (sT l) := by
  have hlen := len_le_sizes l
  refine FC_intro hty Tryz.func41 rfl rfl rfl fun w0 => ?_
  repeat' (first
    | refine WL_m rfl (m_makeSlice hty 10 rfl rfl rfl rfl rfl (by rw [rsT_length]; omega) rfl rfl rfl) ?_
    | refine WL_p hty rfl rfl ?_
    | refine WL_nil ?_
    | refine AC_seq ?_
    | refine AC_region ?_
    | refine AC_block ?_
    | refine AC_skip ?_
    | refine AC_condT rfl ?_
    | refine AC_condF rfl ?_
    | refine AC_exit ?_
    | refine AC_ret ?_
    | refine WL_ung rfl rfl ?_
    | refine WL_offT rfl rfl rfl ?_
    | refine WL_offF rfl rfl rfl ?_
    | refine WL_offU rfl rfl rfl ?_
    | refine WL_m rfl (m_idxN hty rfl rfl rfl (by assumption) rfl) ?_
    | refine ends_bool rfl ?_
    | refine WL_cmp rfl rfl rfl rfl (fun _ => ?_) (fun _ => ?_)
    | refine AC_cond rfl (fun _ => ?_) (fun _ => ?_))
  · rename_i hc
    rw [rsT_length] at hc
    have : l = [] := List.length_eq_zero_iff.1 (by omega)
    subst this
    exact ends_wk rfl rfl (.nilF _ _ _)
  refine AC_for l.length (fun _ => True) (fun j => ⟨envOf [(0, sT l), (3, .arr 10), (12, .int .i64 ((rsT l).length : Nat)), (13, .int .i64 (j : Nat))], bkOf [(10, .arr 24 3 (rsT (l.take j) ++ List.replicate ((rsT l).length - j) [.int .i64 0, .int .i64 0, .lst 3 [] true]) true)]⟩)
    (less_sub ⟨⟨_, rfl, .inl ⟨.refl _, rfl⟩⟩, ⟨_, rfl, .inl ⟨.refl _, rfl⟩⟩, ⟨_, rfl, .inl ⟨.refl _, rfl⟩⟩, ⟨_, rfl, .inl ⟨.refl _, rfl⟩⟩, trivial⟩ ⟨?_, trivial⟩) trivial ?_
  · exact ⟨⟨_, rfl, .refl _⟩, rfl⟩
  intro j hj _
  repeat' (first
    | refine WL_p hty rfl rfl ?_
    | refine WL_nil ?_
    | refine AC_seq ?_
    | refine AC_region ?_
    | refine AC_block ?_
    | refine AC_skip ?_
    | refine AC_condT rfl ?_
    | refine AC_condF rfl ?_
    | refine AC_exit ?_
    | refine AC_ret ?_
    | refine WL_ung rfl rfl ?_
    | refine WL_offT rfl rfl rfl ?_
    | refine WL_offF rfl rfl rfl ?_
    | refine WL_offU rfl rfl rfl ?_
    | refine WL_m rfl (m_idxN hty rfl rfl rfl (by assumption) rfl) ?_
    | refine ends_bool rfl ?_)
  refine WL_cmp rfl rfl rfl rfl (fun hc => ?_) (fun hc => ?_)
  · have hlt : j < l.length := by rw [rsT_length] at hc; omega
    obtain ⟨k, hk, hmem⟩ := get_of_lt hlt
    have hks := size_le_sizes hmem
    have rk := rsT_get hk
    have htl : (rsT (l.take j)).length = j := by rw [rsT_length, List.length_take]; omega
    have hg := get_fill (z := ([.int .i64 0, .int .i64 0, .lst 3 [] true] : List AV)) (n := (rsT l).length) htl (by rw [rsT_length]; exact hlt)
    repeat' (first
      | refine WL_call 0 rfl (ih k (by omega)) rfl rfl rfl ?_
      | refine WL_m rfl (m_idxA hty rfl rfl rfl rfl rfl (Int.natCast_nonneg _) (by simp [rsT_length]; omega) rfl) ?_
      | refine WL_m rfl (m_storeA hty rfl rfl rfl rfl hg rfl rfl rfl rfl rfl) ?_
      | refine WL_p hty rfl rfl ?_
      | refine WL_nil ?_
      | refine AC_seq ?_
      | refine AC_region ?_
      | refine AC_block ?_
      | refine AC_skip ?_
      | refine AC_condT rfl ?_
      | refine AC_condF rfl ?_
      | refine AC_exit ?_
      | refine AC_ret ?_
      | refine WL_ung rfl rfl ?_
      | refine WL_offT rfl rfl rfl ?_
      | refine WL_offF rfl rfl rfl ?_
      | refine WL_offU rfl rfl rfl ?_
      | refine WL_m rfl (m_idxN hty rfl rfl rfl (by assumption) rfl) ?_
      | refine ends_bool rfl ?_
      | refine WL_cmp rfl rfl rfl rfl (fun _ => ?_) (fun _ => ?_)
      | refine AC_cond rfl (fun _ => ?_) (fun _ => ?_))
    refine ⟨hlt, trivial, (less_sub ⟨⟨_, rfl, .inl ⟨.refl _, rfl⟩⟩, ⟨_, rfl, .inl ⟨.refl _, rfl⟩⟩, ⟨_, rfl, .inl ⟨.refl _, rfl⟩⟩, ⟨_, rfl, see_eq ?_ rfl⟩, trivial⟩ ⟨?_, trivial⟩)⟩
    · exact congrArg (AV.int .i64) ((wrap_ok (by omega) (by omega)).trans (by omega))
    · refine ⟨⟨_, rfl, .of_eq (congrArg (fun r => AB.arr 24 3 r true) ?_)⟩, rfl⟩
      refine (set_fill htl (by rw [rsT_length]; exact hlt)).trans ?_
      rw [List.take_add_one, hk, Option.toList_some, rsT_append, rs1]
      rfl
  · obtain rfl : j = l.length := by rw [rsT_length] at hc; omega
    repeat' (first
      | refine WL_p hty rfl rfl ?_
      | refine WL_nil ?_
      | refine AC_seq ?_
      | refine AC_region ?_
      | refine AC_block ?_
      | refine AC_skip ?_
      | refine AC_condT rfl ?_
      | refine AC_condF rfl ?_
      | refine AC_exit ?_
      | refine AC_ret ?_
      | refine WL_ung rfl rfl ?_
      | refine WL_offT rfl rfl rfl ?_
      | refine WL_offF rfl rfl rfl ?_
      | refine WL_offU rfl rfl rfl ?_
      | refine WL_m rfl (m_idxN hty rfl rfl rfl (by assumption) rfl) ?_
      | refine ends_bool rfl ?_
      | refine WL_cmp rfl rfl rfl rfl (fun _ => ?_) (fun _ => ?_)
      | refine AC_cond rfl (fun _ => ?_) (fun _ => ?_))
    refine ends_less (less_freeze 10 rfl) ?_
    refine ends_wk rfl rfl (.of_eq ?_)
    rw [List.take_length, rsT_length, Nat.sub_self]
    exact congrArg (fun r => AV.lst 3 r false) (List.append_nil _)

theorem twins_all : ∀ n, n ≤ 1048576 → ∀ l : List Tm, sizes l ≤ n → FC Tryz.prog 41 [sT l] (sT l) := by
  intro n
  induction n with
  | zero => exact fun hn => twins_step 0 hn (fun a h => absurd a.size_pos (by omega))
  | succ n ih => exact fun hn => twins_step (n + 1) hn (twin_step n (ih (by omega)))
theorem twins_spec (l : List Tm) (h : sizes l ≤ 1048576) : FC Tryz.prog 41 [sT l] (sT l) := twins_all 1048576 (by omega) l h
theorem twin_spec (t : Tm) (h : t.size ≤ 1048576) : FC Tryz.prog 18 [aT t] (aT t) := twin_step 1048576 twins_spec t (by omega)

end Go.Proofs.YtpnjflimilamdaaGreat
