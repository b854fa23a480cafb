/-
  What is more than is played, of blocks.
-/
import Derived.Test.YtgjoeoojplbhpaaSizes
namespace Go.Proofs.Ytgjoeoojplbhpaa
set_option linter.unusedSimpArgs false
set_option linter.unusedVariables false
open Go.Aw Go.RowKit
attribute [local irreducible] WL AC WD MStep OkOp

theorem heavy1_spec (t : Tm) (h : t.size ≤ 1048576) : FC Try.prog 34 [.lst 3 [cT t] true] (.bool (heavyT [t])) := by
  have h1 := heavy2_spec [t] (by simp only [sizes]; omega)
  simp only [sT, rs1] at h1
  exact h1.args (.cons (.full _ _ _) .nil)

theorem heavyArgs_spec (l : List Ar) (h : sizesA l ≤ 1048576) : FC Try.prog 33 [sA l] (.bool (heavyA l)) := by
  have hlen := len_le_sizesA l
  refine FC_intro hty Try.func33 rfl rfl rfl fun w0 => ?_
  repeat' (first
    | refine WL_p hty rfl rfl ?_
    | refine WL_nil ?_
    | refine AC_seq ?_
    | refine AC_region ?_
    | refine AC_block ?_
    | refine AC_skip ?_
    | refine AC_condT rfl ?_
    | refine AC_condF rfl ?_
    | refine AC_exit ?_
    | refine AC_ret ?_
    | refine WL_ung rfl rfl ?_
    | refine WL_offT rfl rfl rfl ?_
    | refine WL_offF rfl rfl rfl ?_
    | refine WL_offU rfl rfl rfl ?_
    | refine WL_m rfl (m_idxN hty rfl rfl rfl (by assumption) rfl) ?_
    | refine ends_bool rfl ?_
    | refine WL_cmp rfl rfl rfl rfl (fun _ => ?_) (fun _ => ?_)
    | refine AC_cond rfl (fun _ => ?_) (fun _ => ?_))
  · rename_i hc
    rw [rsA_length] at hc
    have : 20 < l.length := by omega
    simp [heavyA, this]
  rename_i hc
  rw [rsA_length] at hc
  have h20 : ¬ 20 < l.length := by omega
  refine AC_for l.length (fun j => (l.take j).any (fun a => heavyT [a.typ] || heavyT a.dom || heavyT a.idx) = false) (fun j => ⟨envOf [(0, sA l), (3, .int .i64 (j : Nat))], bkOf []⟩)
    (less_sub ⟨⟨_, rfl, .inl ⟨.refl _, rfl⟩⟩, ⟨_, rfl, .inl ⟨.refl _, rfl⟩⟩, trivial⟩ trivial) rfl ?_
  intro j hj hI
  repeat' (first
    | refine WL_p hty rfl rfl ?_
    | refine WL_nil ?_
    | refine AC_seq ?_
    | refine AC_region ?_
    | refine AC_block ?_
    | refine AC_skip ?_
    | refine AC_condT rfl ?_
    | refine AC_condF rfl ?_
    | refine AC_exit ?_
    | refine AC_ret ?_
    | refine WL_ung rfl rfl ?_
    | refine WL_offT rfl rfl rfl ?_
    | refine WL_offF rfl rfl rfl ?_
    | refine WL_offU rfl rfl rfl ?_
    | refine WL_m rfl (m_idxN hty rfl rfl rfl (by assumption) rfl) ?_
    | refine ends_bool rfl ?_)
  refine WL_cmp rfl rfl rfl rfl (fun hc => ?_) (fun hc => ?_)
  · have hlt : j < l.length := by rw [rsA_length] at hc; omega
    obtain ⟨k, hk, hmem⟩ := get_of_lt hlt
    have hks := size_le_sizesA hmem
    unfold Ar.size at hks
    have rk := rsA_get hk
    have hat := any_take_succ (p := fun a : Ar => heavyT [a.typ] || heavyT a.dom || heavyT a.idx) hk
    repeat' (first
      | refine WL_callB rfl (heavy1_spec _ (by omega)) rfl (fun _ => ?_) (fun _ => ?_)
      | refine WL_callB rfl (heavy2_spec _ (by omega)) rfl (fun _ => ?_) (fun _ => ?_)
      | refine WL_p hty rfl rfl ?_
      | refine WL_nil ?_
      | refine AC_seq ?_
      | refine AC_region ?_
      | refine AC_block ?_
      | refine AC_skip ?_
      | refine AC_condT rfl ?_
      | refine AC_condF rfl ?_
      | refine AC_exit ?_
      | refine AC_ret ?_
      | refine WL_ung rfl rfl ?_
      | refine WL_offT rfl rfl rfl ?_
      | refine WL_offF rfl rfl rfl ?_
      | refine WL_offU rfl rfl rfl ?_
      | refine WL_m rfl (m_idxN hty rfl rfl rfl (by assumption) rfl) ?_
      | refine ends_bool rfl ?_
      | refine WL_cmp rfl rfl rfl rfl (fun _ => ?_) (fun _ => ?_)
      | refine AC_cond rfl (fun _ => ?_) (fun _ => ?_))
    all_goals first
      | have h3 : l.any (fun a => heavyT [a.typ] || heavyT a.dom || heavyT a.idx) = true := any_of_get hk (by simp_all; done)
        simp [heavyA, h3]
        done
      | refine ⟨hlt, ?_, (less_sub ⟨⟨_, rfl, .inl ⟨.refl _, rfl⟩⟩, ⟨_, rfl, see_eq ?_ rfl⟩, trivial⟩ trivial)⟩
        · simp_all
        · exact congrArg (AV.int .i64) ((wrap_ok (by omega) (by omega)).trans (by omega))
  · obtain rfl : j = l.length := by rw [rsA_length] at hc; omega
    rw [List.take_length] at hI
    repeat' (first
      | refine WL_p hty rfl rfl ?_
      | refine WL_nil ?_
      | refine AC_seq ?_
      | refine AC_region ?_
      | refine AC_block ?_
      | refine AC_skip ?_
      | refine AC_condT rfl ?_
      | refine AC_condF rfl ?_
      | refine AC_exit ?_
      | refine AC_ret ?_
      | refine WL_ung rfl rfl ?_
      | refine WL_offT rfl rfl rfl ?_
      | refine WL_offF rfl rfl rfl ?_
      | refine WL_offU rfl rfl rfl ?_
      | refine WL_m rfl (m_idxN hty rfl rfl rfl (by assumption) rfl) ?_
      | refine ends_bool rfl ?_
      | refine WL_cmp rfl rfl rfl rfl (fun _ => ?_) (fun _ => ?_)
      | refine AC_cond rfl (fun _ => ?_) (fun _ => ?_))
    simp only [heavyA, hI]; simp [h20]

theorem heavyB_spec (b : Bl) (h : b.size ≤ 1048576) : FC Try.prog 21 [aB b] (.bool (heavyB b)) := by
  unfold Bl.size at h
  have hl1 := len_le_sizesS b.sorts
  have hl2 := len_le_sizesC b.cons
  refine FC_intro hty Try.func21 rfl rfl rfl fun w0 => ?_
  repeat' (first
    | refine WL_p hty rfl rfl ?_
    | refine WL_nil ?_
    | refine AC_seq ?_
    | refine AC_region ?_
    | refine AC_block ?_
    | refine AC_skip ?_
    | refine AC_condT rfl ?_
    | refine AC_condF rfl ?_
    | refine AC_exit ?_
    | refine AC_ret ?_
    | refine WL_ung rfl rfl ?_
    | refine WL_offT rfl rfl rfl ?_
    | refine WL_offF rfl rfl rfl ?_
    | refine WL_offU rfl rfl rfl ?_
    | refine WL_m rfl (m_idxN hty rfl rfl rfl (by assumption) rfl) ?_
    | refine ends_bool rfl ?_
    | refine WL_cmp rfl rfl rfl rfl (fun _ => ?_) (fun _ => ?_)
    | refine AC_cond rfl (fun _ => ?_) (fun _ => ?_))
  · rename_i hc
    rw [rsS_length] at hc
    have : 10 < b.sorts.length := by omega
    simp [heavyB, this]
  · rename_i hc
    rw [rsC_length] at hc
    have : 20 < b.cons.length := by omega
    simp [heavyB, this]
  rename_i hc1 hc2
  rw [rsS_length] at hc1
  rw [rsC_length] at hc2
  have h10 : ¬ 10 < b.sorts.length := by omega
  have h20 : ¬ 20 < b.cons.length := by omega
  refine AC_for b.sorts.length (fun j => (b.sorts.take j).any heavyS = false) (fun j => ⟨envOf [(1, .ptr 1 0), (3, .int .i64 (j : Nat))], bkOf [(1, .box [.lst 6 (rsS b.sorts) false, .lst 6 (rsC b.cons) false, .int .i64 b.elim])]⟩)
    (less_sub ⟨⟨_, rfl, .inl ⟨.refl _, rfl⟩⟩, ⟨_, rfl, .inl ⟨.refl _, rfl⟩⟩, trivial⟩ ⟨⟨⟨_, rfl, .refl _⟩, rfl⟩, trivial⟩) rfl ?_
  intro j hj hI
  repeat' (first
    | refine WL_p hty rfl rfl ?_
    | refine WL_nil ?_
    | refine AC_seq ?_
    | refine AC_region ?_
    | refine AC_block ?_
    | refine AC_skip ?_
    | refine AC_condT rfl ?_
    | refine AC_condF rfl ?_
    | refine AC_exit ?_
    | refine AC_ret ?_
    | refine WL_ung rfl rfl ?_
    | refine WL_offT rfl rfl rfl ?_
    | refine WL_offF rfl rfl rfl ?_
    | refine WL_offU rfl rfl rfl ?_
    | refine WL_m rfl (m_idxN hty rfl rfl rfl (by assumption) rfl) ?_
    | refine ends_bool rfl ?_)
  refine WL_cmp rfl rfl rfl rfl (fun hc => ?_) (fun hc => ?_)
  · have hlt : j < b.sorts.length := by rw [rsS_length] at hc; omega
    obtain ⟨k, hk, hmem⟩ := get_of_lt hlt
    have hks := size_le_sizesS hmem
    unfold Sr.size at hks
    have rk := rsS_get hk
    have hat := any_take_succ (p := heavyS) hk
    repeat' (first
      | refine WL_callB rfl (heavyArgs_spec _ (by omega)) rfl (fun _ => ?_) (fun _ => ?_)
      | refine WL_callB rfl (heavy1_spec _ (by omega)) rfl (fun _ => ?_) (fun _ => ?_)
      | refine WL_p hty rfl rfl ?_
      | refine WL_nil ?_
      | refine AC_seq ?_
      | refine AC_region ?_
      | refine AC_block ?_
      | refine AC_skip ?_
      | refine AC_condT rfl ?_
      | refine AC_condF rfl ?_
      | refine AC_exit ?_
      | refine AC_ret ?_
      | refine WL_ung rfl rfl ?_
      | refine WL_offT rfl rfl rfl ?_
      | refine WL_offF rfl rfl rfl ?_
      | refine WL_offU rfl rfl rfl ?_
      | refine WL_m rfl (m_idxN hty rfl rfl rfl (by assumption) rfl) ?_
      | refine ends_bool rfl ?_
      | refine WL_cmp rfl rfl rfl rfl (fun _ => ?_) (fun _ => ?_)
      | refine AC_cond rfl (fun _ => ?_) (fun _ => ?_))
    all_goals first
      | have h3 : b.sorts.any heavyS = true := any_of_get hk (by simp_all [heavyS]; done)
        simp [heavyB, h3]
        done
      | refine ⟨hlt, ?_, (less_sub ⟨⟨_, rfl, .inl ⟨.refl _, rfl⟩⟩, ⟨_, rfl, see_eq ?_ rfl⟩, trivial⟩ ⟨⟨⟨_, rfl, .refl _⟩, rfl⟩, trivial⟩)⟩
        · simp_all [heavyS]
        · exact congrArg (AV.int .i64) ((wrap_ok (by omega) (by omega)).trans (by omega))
  · obtain rfl : j = b.sorts.length := by rw [rsS_length] at hc; omega
    rw [List.take_length] at hI
    repeat' (first
      | refine WL_p hty rfl rfl ?_
      | refine WL_nil ?_
      | refine AC_seq ?_
      | refine AC_region ?_
      | refine AC_block ?_
      | refine AC_skip ?_
      | refine AC_condT rfl ?_
      | refine AC_condF rfl ?_
      | refine AC_exit ?_
      | refine AC_ret ?_
      | refine WL_ung rfl rfl ?_
      | refine WL_offT rfl rfl rfl ?_
      | refine WL_offF rfl rfl rfl ?_
      | refine WL_offU rfl rfl rfl ?_
      | refine WL_m rfl (m_idxN hty rfl rfl rfl (by assumption) rfl) ?_
      | refine ends_bool rfl ?_
      | refine WL_cmp rfl rfl rfl rfl (fun _ => ?_) (fun _ => ?_)
      | refine AC_cond rfl (fun _ => ?_) (fun _ => ?_))
    clear hj hc
    refine AC_for b.cons.length (fun j => (b.cons.take j).any heavyC = false) (fun j => ⟨envOf [(1, .ptr 1 0), (4, .int .i64 (j : Nat))], bkOf [(1, .box [.lst 6 (rsS b.sorts) false, .lst 6 (rsC b.cons) false, .int .i64 b.elim])]⟩)
      (less_sub ⟨⟨_, rfl, .inl ⟨.refl _, rfl⟩⟩, ⟨_, rfl, .inl ⟨.refl _, rfl⟩⟩, trivial⟩ ⟨⟨⟨_, rfl, .refl _⟩, rfl⟩, trivial⟩) rfl ?_
    intro j hj hJ
    repeat' (first
      | refine WL_p hty rfl rfl ?_
      | refine WL_nil ?_
      | refine AC_seq ?_
      | refine AC_region ?_
      | refine AC_block ?_
      | refine AC_skip ?_
      | refine AC_condT rfl ?_
      | refine AC_condF rfl ?_
      | refine AC_exit ?_
      | refine AC_ret ?_
      | refine WL_ung rfl rfl ?_
      | refine WL_offT rfl rfl rfl ?_
      | refine WL_offF rfl rfl rfl ?_
      | refine WL_offU rfl rfl rfl ?_
      | refine WL_m rfl (m_idxN hty rfl rfl rfl (by assumption) rfl) ?_
      | refine ends_bool rfl ?_)
    refine WL_cmp rfl rfl rfl rfl (fun hc => ?_) (fun hc => ?_)
    · have hlt : j < b.cons.length := by rw [rsC_length] at hc; omega
      obtain ⟨k, hk, hmem⟩ := get_of_lt hlt
      have hks := size_le_sizesC hmem
      unfold Cn.size at hks
      have rk := rsC_get hk
      have hat := any_take_succ (p := heavyC) hk
      repeat' (first
        | refine WL_callB rfl (heavyArgs_spec _ (by omega)) rfl (fun _ => ?_) (fun _ => ?_)
        | refine WL_callB rfl (heavy1_spec _ (by omega)) rfl (fun _ => ?_) (fun _ => ?_)
        | refine WL_callB rfl (heavy2_spec _ (by omega)) rfl (fun _ => ?_) (fun _ => ?_)
        | refine WL_p hty rfl rfl ?_
        | refine WL_nil ?_
        | refine AC_seq ?_
        | refine AC_region ?_
        | refine AC_block ?_
        | refine AC_skip ?_
        | refine AC_condT rfl ?_
        | refine AC_condF rfl ?_
        | refine AC_exit ?_
        | refine AC_ret ?_
        | refine WL_ung rfl rfl ?_
        | refine WL_offT rfl rfl rfl ?_
        | refine WL_offF rfl rfl rfl ?_
        | refine WL_offU rfl rfl rfl ?_
        | refine WL_m rfl (m_idxN hty rfl rfl rfl (by assumption) rfl) ?_
        | refine ends_bool rfl ?_
        | refine WL_cmp rfl rfl rfl rfl (fun _ => ?_) (fun _ => ?_)
        | refine AC_cond rfl (fun _ => ?_) (fun _ => ?_))
      all_goals first
        | have h3 : b.cons.any heavyC = true := any_of_get hk (by simp_all [heavyC]; done)
          simp [heavyB, h3]
          done
        | refine ⟨hlt, ?_, (less_sub ⟨⟨_, rfl, .inl ⟨.refl _, rfl⟩⟩, ⟨_, rfl, see_eq ?_ rfl⟩, trivial⟩ ⟨⟨⟨_, rfl, .refl _⟩, rfl⟩, trivial⟩)⟩
          · simp_all [heavyC]
          · exact congrArg (AV.int .i64) ((wrap_ok (by omega) (by omega)).trans (by omega))
    · obtain rfl : j = b.cons.length := by rw [rsC_length] at hc; omega
      rw [List.take_length] at hJ
      repeat' (first
        | refine WL_p hty rfl rfl ?_
        | refine WL_nil ?_
        | refine AC_seq ?_
        | refine AC_region ?_
        | refine AC_block ?_
        | refine AC_skip ?_
        | refine AC_condT rfl ?_
        | refine AC_condF rfl ?_
        | refine AC_exit ?_
        | refine AC_ret ?_
        | refine WL_ung rfl rfl ?_
        | refine WL_offT rfl rfl rfl ?_
        | refine WL_offF rfl rfl rfl ?_
        | refine WL_offU rfl rfl rfl ?_
        | refine WL_m rfl (m_idxN hty rfl rfl rfl (by assumption) rfl) ?_
        | refine ends_bool rfl ?_
        | refine WL_cmp rfl rfl rfl rfl (fun _ => ?_) (fun _ => ?_)
        | refine AC_cond rfl (fun _ => ?_) (fun _ => ?_))
      simp only [heavyB, hI, hJ]; simp [h10, h20]

end Go.Proofs.Ytgjoeoojplbhpaa
