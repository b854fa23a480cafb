/-
  CodeSteps' own body.
-/
import Derived.Test.YtgjoeoojplbhpaaWakes
import Derived.Test.YtgjoeoojplbhpaaHeavy
import Derived.Test.YtgjoeoojplbhpaaKeep2
namespace Go.Proofs.Ytgjoeoojplbhpaa
set_option linter.unusedSimpArgs false
set_option linter.unusedVariables false
open Go.Aw Go.RowKit
attribute [local irreducible] WL AC WD MStep OkOp

theorem heavyN_spec (c : Cn) (hc : c.size ≤ 1048576) : FC Try.prog 8 [aC c] (.bool (heavyB ⟨[], [c], 0⟩)) := by
  have h1 : FC Try.prog 21 [.agg [.lst 6 [] true, .lst 6 [cC c] true, .int .i64 0]] (.bool (heavyB ⟨[], [c], 0⟩)) :=
    (heavyB_spec ⟨[], [c], 0⟩ (by simp [Bl.size, sizesS, sizesC]; omega)).args (.cons (.agg (.cons (.full _ _ _) (.cons (.full _ _ _) (.cons (.refl _) .nil)))) .nil)
  refine FC_intro hty Try.func8 rfl rfl rfl fun w0 => ?_
  repeat' (first
    | refine WL_call 0 rfl h1 rfl rfl rfl ?_
    | refine WL_p hty rfl rfl ?_
    | refine WL_nil ?_
    | refine AC_seq ?_
    | refine AC_region ?_
    | refine AC_block ?_
    | refine AC_skip ?_
    | refine AC_condT rfl ?_
    | refine AC_condF rfl ?_
    | refine AC_exit ?_
    | refine AC_ret ?_
    | refine WL_ung rfl rfl ?_
    | refine WL_offT rfl rfl rfl ?_
    | refine WL_offF rfl rfl rfl ?_
    | refine WL_offU rfl rfl rfl ?_
    | refine WL_m rfl (m_idxN hty rfl rfl rfl (by assumption) rfl) ?_
    | refine ends_bool rfl ?_
    | refine WL_cmp rfl rfl rfl rfl (fun _ => ?_) (fun _ => ?_)
    | refine AC_cond rfl (fun _ => ?_) (fun _ => ?_))
  all_goals rfl

theorem kz_spec (t : Tm) (h : t.size ≤ 1048576) : FC Try.prog 24 [aT t, .agg [.int .i64 0, .int .i64 0, .lst 3 [] true]] (.bool (decide (t = zT))) :=
  (kterm_spec t zT h).args (.cons (.refl _) (.cons (.agg (.cons (.refl _) (.cons (.refl _) (.cons (.full _ _ _) .nil)))) .nil))

theorem kz_same : FC Try.prog 24 [aT zT, .agg [.int .i64 0, .int .i64 0, .lst 3 [] true]] (.bool true) := kz_spec zT (by simp [zT, Tm.size, sizes])
theorem kterm_same (t : Tm) (h : t.size ≤ 1048576) : FC Try.prog 24 [aT t, aT t] (.bool true) := by
  have := kterm_spec t t h
  rwa [decide_eq_true rfl] at this
theorem kterms_same (l : List Tm) (h : sizes l ≤ 1048576) : FC Try.prog 23 [sT l, sT l] (.bool true) := by
  have := kterms_spec' l l h
  rwa [decide_eq_true rfl] at this

theorem compile_get {c : Cn} {j : Nat} {a : Ar} (h : c.args[j]? = some a) : (compile c)[j]? = some (codeOf a) := by
  have hlt : j < c.args.length := (List.getElem?_eq_some_iff.1 h).1
  unfold compile
  rw [List.getElem?_append_left (by rw [List.length_map]; exact hlt), List.getElem?_map, h]; rfl
theorem compile_last (c : Cn) : (compile c)[c.args.length]? = some ⟨1, zT, [], 0, c.idx, c.dec⟩ := by
  unfold compile
  rw [List.getElem?_append_right (by rw [List.length_map]; exact Nat.le_refl _), List.length_map, Nat.sub_self]; rfl

set_option maxRecDepth 4000 in
set_option maxHeartbeats 4000000 in
theorem steps_spec (c : Cn) (hc : c.size ≤ 1048576) : FC Try.prog 6 [aC c] (.bool true) := by
  have hc2 := hc
  unfold Cn.size at hc2
  have hlen := len_le_sizesA c.args
  have hcl : (compile c).length = c.args.length + 1 := by simp [compile]
  refine FC_intro hty Try.func6 rfl rfl rfl fun w0 => ?_
  repeat' (first
    | refine WL_callB rfl (heavyN_spec c hc) rfl (fun _ => ?_) (fun _ => ?_)
    | refine WL_call 0 rfl (compile_spec c hc) rfl rfl rfl ?_
    | refine WL_p hty rfl rfl ?_
    | refine WL_nil ?_
    | refine AC_seq ?_
    | refine AC_region ?_
    | refine AC_block ?_
    | refine AC_skip ?_
    | refine AC_condT rfl ?_
    | refine AC_condF rfl ?_
    | refine AC_exit ?_
    | refine AC_ret ?_
    | refine WL_ung rfl rfl ?_
    | refine WL_offT rfl rfl rfl ?_
    | refine WL_offF rfl rfl rfl ?_
    | refine WL_offU rfl rfl rfl ?_
    | refine WL_m rfl (m_idxN hty rfl rfl rfl (by assumption) rfl) ?_
    | refine ends_bool rfl ?_
    | refine WL_cmp rfl rfl rfl rfl (fun _ => ?_) (fun _ => ?_)
    | refine AC_cond rfl (fun _ => ?_) (fun _ => ?_))
  · rfl
  · rename_i h
    rw [wrap_ok (by rw [rsA_length]; omega) (by rw [rsA_length]; omega), rsD_length, rsA_length, hcl] at h
    exact absurd rfl h
  refine AC_for c.args.length (fun _ => True) (fun j => ⟨envOf [(1, .ptr 1 0), (3, sD (compile c)), (4, .ptr 4 0), (5, .int .i64 (j : Nat))], bkOf [(1, .box (cC c)), (4, .box [.int .i64 0, .int .i64 0, .lst 3 [] true])]⟩)
    (less_sub ⟨⟨_, rfl, .inl ⟨.refl _, rfl⟩⟩, ⟨_, rfl, .inl ⟨.refl _, rfl⟩⟩, ⟨_, rfl, .inl ⟨.refl _, rfl⟩⟩, ⟨_, rfl, .inl ⟨.refl _, rfl⟩⟩, trivial⟩ ⟨⟨⟨_, rfl, .refl _⟩, rfl⟩, ⟨⟨_, rfl, .refl _⟩, rfl⟩, trivial⟩) trivial ?_
  intro j hj _
  repeat' (first
    | refine WL_p hty rfl rfl ?_
    | refine WL_nil ?_
    | refine AC_seq ?_
    | refine AC_region ?_
    | refine AC_block ?_
    | refine AC_skip ?_
    | refine AC_condT rfl ?_
    | refine AC_condF rfl ?_
    | refine AC_exit ?_
    | refine AC_ret ?_
    | refine WL_ung rfl rfl ?_
    | refine WL_offT rfl rfl rfl ?_
    | refine WL_offF rfl rfl rfl ?_
    | refine WL_offU rfl rfl rfl ?_
    | refine WL_m rfl (m_idxN hty rfl rfl rfl (by assumption) rfl) ?_
    | refine ends_bool rfl ?_)
  refine WL_cmp rfl rfl rfl rfl (fun hc => ?_) (fun hc => ?_)
  · have hlt : j < c.args.length := by rw [rsA_length] at hc; omega
    obtain ⟨a, ha, hmem⟩ := get_of_lt hlt
    have hks := size_le_sizesA hmem
    have ra := rsA_get ha
    have rd := rsD_get (compile_get ha)
    obtain ⟨rc, tt, dd, so, ix⟩ := a
    unfold Ar.size at hks
    simp only at hks
    cases rc
    · have rd : (rsD (compile c))[j]? = some (cD ⟨2, tt, [], 0, [], zT⟩) := rd
      repeat' (first
        | refine WL_p hty rfl rfl ?_
        | refine WL_nil ?_
        | refine AC_seq ?_
        | refine AC_region ?_
        | refine AC_block ?_
        | refine AC_skip ?_
        | refine AC_condT rfl ?_
        | refine AC_condF rfl ?_
        | refine AC_exit ?_
        | refine AC_ret ?_
        | refine WL_ung rfl rfl ?_
        | refine WL_offT rfl rfl rfl ?_
        | refine WL_offF rfl rfl rfl ?_
        | refine WL_offU rfl rfl rfl ?_
        | refine WL_m rfl (m_idxN hty rfl rfl rfl (by assumption) rfl) ?_
        | refine ends_bool rfl ?_)
      refine AC_drawn [[], [0], [], [0, 1, 2], [0, 1, 2, 3], [], [], [5, 6], [5, 6, 7], [], [], [0, 1, 2, 3, 4, 9, 10], [0, 1, 2, 3, 4, 5, 6, 7, 8, 9, 10, 11]] rfl rfl ?_
      repeat' (first
        | refine WD_cons (.inl ⟨rfl, stepE_ok hty rfl rfl⟩) ?_
        | refine WD_cons (.inl ⟨rfl, m_idxN hty rfl rfl rfl ra rfl⟩) ?_
        | refine WD_cons (.inl ⟨rfl, m_idxN hty rfl rfl rfl rd rfl⟩) ?_
        | refine WD_nil ⟨by kernel_rfl, ?_⟩)
      refine AC_less (less_sub (l := [(1, _), (3, _), (4, _), (5, _), (6, _), (7, _)]) (bl := [(1, _), (4, _), (6, _), (7, _)]) ⟨⟨_, rfl, .inl ⟨.refl _, rfl⟩⟩, ⟨_, rfl, .inl ⟨.refl _, rfl⟩⟩, ⟨_, rfl, .inl ⟨.refl _, rfl⟩⟩, ⟨_, rfl, .inl ⟨.refl _, rfl⟩⟩, ⟨_, rfl, .inl ⟨.refl _, rfl⟩⟩, ⟨_, rfl, .inl ⟨.refl _, rfl⟩⟩, trivial⟩ ⟨⟨⟨_, rfl, .refl _⟩, rfl⟩, ⟨⟨_, rfl, .refl _⟩, rfl⟩, ⟨⟨_, rfl, .refl _⟩, rfl⟩, ⟨⟨_, rfl, .refl _⟩, rfl⟩, trivial⟩) ?_
      repeat' (first
        | exact absurd rfl ‹_›
        | refine WL_call 0 rfl kz_same rfl rfl rfl ?_
        | refine WL_call 0 rfl (kterms_same _ (by first | omega | (dsimp only; omega))) rfl rfl rfl ?_
        | refine WL_call 0 rfl (kterm_same _ (by first | omega | (dsimp only; omega))) rfl rfl rfl ?_
        | refine WL_p hty rfl rfl ?_
        | refine WL_nil ?_
        | refine AC_seq ?_
        | refine AC_region ?_
        | refine AC_block ?_
        | refine AC_skip ?_
        | refine AC_condT rfl ?_
        | refine AC_condF rfl ?_
        | refine AC_exit ?_
        | refine AC_ret ?_
        | refine WL_ung rfl rfl ?_
        | refine WL_offT rfl rfl rfl ?_
        | refine WL_offF rfl rfl rfl ?_
        | refine WL_offU rfl rfl rfl ?_
        | refine WL_m rfl (m_idxN hty rfl rfl rfl (by assumption) rfl) ?_
        | refine ends_bool rfl ?_
        | refine WL_cmp rfl rfl rfl rfl (fun _ => ?_) (fun _ => ?_)
        | refine AC_cond rfl (fun _ => ?_) (fun _ => ?_))
      refine ⟨hlt, trivial, (less_sub ⟨⟨_, rfl, .inl ⟨.refl _, rfl⟩⟩, ⟨_, rfl, .inl ⟨.refl _, rfl⟩⟩, ⟨_, rfl, .inl ⟨.refl _, rfl⟩⟩, ⟨_, rfl, see_eq ?_ rfl⟩, trivial⟩ ⟨⟨⟨_, rfl, .refl _⟩, rfl⟩, ⟨⟨_, rfl, .refl _⟩, rfl⟩, trivial⟩)⟩
      exact congrArg (AV.int .i64) ((wrap_ok (by omega) (by omega)).trans (by omega))
    · have rd : (rsD (compile c))[j]? = some (cD ⟨3, zT, dd, so, ix, zT⟩) := rd
      repeat' (first
        | refine WL_p hty rfl rfl ?_
        | refine WL_nil ?_
        | refine AC_seq ?_
        | refine AC_region ?_
        | refine AC_block ?_
        | refine AC_skip ?_
        | refine AC_condT rfl ?_
        | refine AC_condF rfl ?_
        | refine AC_exit ?_
        | refine AC_ret ?_
        | refine WL_ung rfl rfl ?_
        | refine WL_offT rfl rfl rfl ?_
        | refine WL_offF rfl rfl rfl ?_
        | refine WL_offU rfl rfl rfl ?_
        | refine WL_m rfl (m_idxN hty rfl rfl rfl (by assumption) rfl) ?_
        | refine ends_bool rfl ?_)
      refine AC_drawn [[], [0], [], [0, 1, 2], [0, 1, 2, 3], [], [], [5, 6], [5, 6, 7], [], [], [0, 1, 2, 3, 4, 9, 10], [0, 1, 2, 3, 4, 5, 6, 7, 8, 9, 10, 11]] rfl rfl ?_
      repeat' (first
        | refine WD_cons (.inl ⟨rfl, stepE_ok hty rfl rfl⟩) ?_
        | refine WD_cons (.inl ⟨rfl, m_idxN hty rfl rfl rfl ra rfl⟩) ?_
        | refine WD_cons (.inl ⟨rfl, m_idxN hty rfl rfl rfl rd rfl⟩) ?_
        | refine WD_nil ⟨by kernel_rfl, ?_⟩)
      refine AC_less (less_sub (l := [(1, _), (3, _), (4, _), (5, _), (6, _), (7, _)]) (bl := [(1, _), (4, _), (6, _), (7, _)]) ⟨⟨_, rfl, .inl ⟨.refl _, rfl⟩⟩, ⟨_, rfl, .inl ⟨.refl _, rfl⟩⟩, ⟨_, rfl, .inl ⟨.refl _, rfl⟩⟩, ⟨_, rfl, .inl ⟨.refl _, rfl⟩⟩, ⟨_, rfl, .inl ⟨.refl _, rfl⟩⟩, ⟨_, rfl, .inl ⟨.refl _, rfl⟩⟩, trivial⟩ ⟨⟨⟨_, rfl, .refl _⟩, rfl⟩, ⟨⟨_, rfl, .refl _⟩, rfl⟩, ⟨⟨_, rfl, .refl _⟩, rfl⟩, ⟨⟨_, rfl, .refl _⟩, rfl⟩, trivial⟩) ?_
      repeat' (first
        | exact absurd rfl ‹_›
        | refine WL_call 0 rfl kz_same rfl rfl rfl ?_
        | refine WL_call 0 rfl (kterms_same _ (by first | omega | (dsimp only; omega))) rfl rfl rfl ?_
        | refine WL_call 0 rfl (kterm_same _ (by first | omega | (dsimp only; omega))) rfl rfl rfl ?_
        | refine WL_p hty rfl rfl ?_
        | refine WL_nil ?_
        | refine AC_seq ?_
        | refine AC_region ?_
        | refine AC_block ?_
        | refine AC_skip ?_
        | refine AC_condT rfl ?_
        | refine AC_condF rfl ?_
        | refine AC_exit ?_
        | refine AC_ret ?_
        | refine WL_ung rfl rfl ?_
        | refine WL_offT rfl rfl rfl ?_
        | refine WL_offF rfl rfl rfl ?_
        | refine WL_offU rfl rfl rfl ?_
        | refine WL_m rfl (m_idxN hty rfl rfl rfl (by assumption) rfl) ?_
        | refine ends_bool rfl ?_
        | refine WL_cmp rfl rfl rfl rfl (fun _ => ?_) (fun _ => ?_)
        | refine AC_cond rfl (fun _ => ?_) (fun _ => ?_))
      refine ⟨hlt, trivial, (less_sub ⟨⟨_, rfl, .inl ⟨.refl _, rfl⟩⟩, ⟨_, rfl, .inl ⟨.refl _, rfl⟩⟩, ⟨_, rfl, .inl ⟨.refl _, rfl⟩⟩, ⟨_, rfl, see_eq ?_ rfl⟩, trivial⟩ ⟨⟨⟨_, rfl, .refl _⟩, rfl⟩, ⟨⟨_, rfl, .refl _⟩, rfl⟩, trivial⟩)⟩
      exact congrArg (AV.int .i64) ((wrap_ok (by omega) (by omega)).trans (by omega))
  · obtain rfl : j = c.args.length := by rw [rsA_length] at hc; omega
    have rl := rsD_get (compile_last c)
    repeat' (first
      | refine WL_m rfl (m_idxL hty rfl rfl rfl (Int.natCast_nonneg _) (by rw [rsA_length]; exact rl) rfl) ?_
      | refine WL_call 0 rfl wakes_spec rfl rfl rfl ?_
      | refine WL_call 0 rfl kz_same rfl rfl rfl ?_
      | refine WL_call 0 rfl (kterms_same _ (by first | omega | (dsimp only; omega))) rfl rfl rfl ?_
      | refine WL_call 0 rfl (kterm_same _ (by first | omega | (dsimp only; omega))) rfl rfl rfl ?_
      | refine WL_p hty rfl rfl ?_
      | refine WL_nil ?_
      | refine AC_seq ?_
      | refine AC_region ?_
      | refine AC_block ?_
      | refine AC_skip ?_
      | refine AC_condT rfl ?_
      | refine AC_condF rfl ?_
      | refine AC_exit ?_
      | refine AC_ret ?_
      | refine WL_ung rfl rfl ?_
      | refine WL_offT rfl rfl rfl ?_
      | refine WL_offF rfl rfl rfl ?_
      | refine WL_offU rfl rfl rfl ?_
      | refine WL_m rfl (m_idxN hty rfl rfl rfl (by assumption) rfl) ?_
      | refine ends_bool rfl ?_
      | refine WL_cmp rfl rfl rfl rfl (fun _ => ?_) (fun _ => ?_)
      | refine AC_cond rfl (fun _ => ?_) (fun _ => ?_))
    all_goals first
      | rfl
      | exact absurd rfl ‹_›

end Go.Proofs.Ytgjoeoojplbhpaa
