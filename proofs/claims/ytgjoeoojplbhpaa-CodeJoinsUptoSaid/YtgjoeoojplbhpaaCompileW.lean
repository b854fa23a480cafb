/-
  What a constructor is compiled to lies in an array that nobody else has seen.
-/
import Derived.Test.YtgjoeoojplbhpaaCompile
import Derived.Test.YtgjoeoojplbhpaaAw27
namespace Go.Proofs.Ytgjoeoojplbhpaa
set_option linter.unusedSimpArgs false
set_option linter.unusedVariables false
open Go.Aw Go.RowKit
attribute [local irreducible] WL AC WD MStep OkOp

def mkCW (c : Cn) : Nat → AS
  | 0 => ⟨envOf [(1, .ptr 1 0), (3, .lst 0 [] true), (7, sA c.args), (8, .int .i64 ((rsA c.args).length : Nat)), (9, .int .i64 0)], bkOf [(1, .box (cC c))]⟩
  | j + 1 => ⟨envOf [(1, .ptr 1 0), (3, .arr 3), (7, sA c.args), (8, .int .i64 ((rsA c.args).length : Nat)), (9, .int .i64 ((j + 1 : Nat) : Int))], bkOf [(1, .box (cC c)), (3, .arr 36 10 (rsD ((c.args.take (j + 1)).map codeOf)) true)]⟩

set_option maxHeartbeats 4000000 in
theorem compileW_spec (c : Cn) (hc : c.size ≤ 1048576) : FC Try.prog 11 [aC c] (.own 36 10 (rsD (compile c)) true) := by
  unfold Cn.size at hc
  have hlen := len_le_sizesA c.args
  refine FC_intro hty Try.func11 rfl rfl rfl fun w0 => ?_
  repeat' (first
    | refine WL_p hty rfl rfl ?_
    | refine WL_nil ?_
    | refine AC_seq ?_
    | refine AC_region ?_
    | refine AC_block ?_
    | refine AC_skip ?_
    | refine AC_condT rfl ?_
    | refine AC_condF rfl ?_
    | refine AC_exit ?_
    | refine AC_ret ?_
    | refine WL_ung rfl rfl ?_
    | refine WL_offT rfl rfl rfl ?_
    | refine WL_offF rfl rfl rfl ?_
    | refine WL_offU rfl rfl rfl ?_
    | refine WL_m rfl (m_idxN hty rfl rfl rfl (by assumption) rfl) ?_
    | refine ends_bool rfl ?_
    | refine WL_cmp rfl rfl rfl rfl (fun _ => ?_) (fun _ => ?_)
    | refine AC_cond rfl (fun _ => ?_) (fun _ => ?_))
  refine AC_for c.args.length (fun _ => True) (mkCW c) (less_sub ⟨⟨_, rfl, .inl ⟨.refl _, rfl⟩⟩, ⟨_, rfl, .inl ⟨.refl _, rfl⟩⟩, ⟨_, rfl, .inl ⟨.refl _, rfl⟩⟩, ⟨_, rfl, .inl ⟨.refl _, rfl⟩⟩, ⟨_, rfl, .inl ⟨.refl _, rfl⟩⟩, trivial⟩ ⟨⟨⟨_, rfl, .refl _⟩, rfl⟩, trivial⟩) trivial ?_
  intro j hj _
  have key : ∀ a, c.args[j]? = some a → rsD ((c.args.take (j + 1)).map codeOf) = rsD ((c.args.take j).map codeOf) ++ [cD (codeOf a)] := fun a ha => by
    rw [List.take_add_one, ha, Option.toList_some, List.map_append, rsD_append]; rfl
  have hfin : rsD (compile c) = rsD (c.args.map codeOf) ++ [cD ⟨1, zT, [], 0, c.idx, c.dec⟩] := by unfold compile; rw [rsD_append]; rfl
  have hdl : (rsD ((c.args.take j).map codeOf)).length = j := by rw [rsD_length, List.length_map, List.length_take]; omega
  cases j with
  | zero =>
    repeat' (first
      | refine WL_p hty rfl rfl ?_
      | refine WL_nil ?_
      | refine AC_seq ?_
      | refine AC_region ?_
      | refine AC_block ?_
      | refine AC_skip ?_
      | refine AC_condT rfl ?_
      | refine AC_condF rfl ?_
      | refine AC_exit ?_
      | refine AC_ret ?_
      | refine WL_ung rfl rfl ?_
      | refine WL_offT rfl rfl rfl ?_
      | refine WL_offF rfl rfl rfl ?_
      | refine WL_offU rfl rfl rfl ?_
      | refine WL_m rfl (m_idxN hty rfl rfl rfl (by assumption) rfl) ?_
      | refine ends_bool rfl ?_)
    refine WL_cmp rfl rfl rfl rfl (fun hc => ?_) (fun hc => ?_)
    · have hlt : 0 < c.args.length := by rw [rsA_length] at hc; omega
      obtain ⟨a, ha, hmem⟩ := get_of_lt hlt
      have hks := size_le_sizesA hmem
      unfold Ar.size at hks
      have ra := rsA_get ha
      have hk := key a ha
      repeat' (first
        | refine WL_m rfl (m_idxN (i := 0) hty rfl rfl rfl ra rfl) ?_
        | refine WL_call 0 rfl (twin_spec _ (by omega)) rfl rfl rfl ?_
        | refine WL_m rfl (m_appF hty 3 rfl rfl rfl rfl rfl rfl rfl (List.cons_ne_nil _ _) (Nat.le_of_ble_eq_true rfl) rfl rfl rfl) ?_
        | refine WL_p hty rfl rfl ?_
        | refine WL_nil ?_
        | refine AC_seq ?_
        | refine AC_region ?_
        | refine AC_block ?_
        | refine AC_skip ?_
        | refine AC_condT rfl ?_
        | refine AC_condF rfl ?_
        | refine AC_exit ?_
        | refine AC_ret ?_
        | refine WL_ung rfl rfl ?_
        | refine WL_offT rfl rfl rfl ?_
        | refine WL_offF rfl rfl rfl ?_
        | refine WL_offU rfl rfl rfl ?_
        | refine WL_m rfl (m_idxN hty rfl rfl rfl (by assumption) rfl) ?_
        | refine ends_bool rfl ?_
        | refine WL_cmp rfl rfl rfl rfl (fun _ => ?_) (fun _ => ?_)
        | refine AC_cond rfl (fun _ => ?_) (fun _ => ?_))
      · rename_i hrc
        refine AC_drawn [[], [], [1], [1, 2], [], [4], [], [6], [1, 2, 3, 6, 7], [1, 2, 3, 4, 5, 6, 7, 8], [1, 2, 3, 4, 5, 6, 7, 8, 9], [0, 1, 2, 3, 4, 5, 6, 7, 8, 9, 10], [0, 1, 2, 3, 4, 5, 6, 7, 8, 9, 10, 11]] rfl rfl ?_
        repeat' (first
          | refine WD_cons (.inl ⟨rfl, m_call 0 rfl (twins_spec _ (by omega)) rfl rfl rfl⟩) ?_
          | refine WD_cons (.inl ⟨rfl, m_appF hty 3 rfl rfl rfl rfl rfl rfl rfl (List.cons_ne_nil _ _) (Nat.le_of_ble_eq_true rfl) rfl rfl rfl⟩) ?_
          | refine WD_cons (.inl ⟨rfl, stepE_ok hty rfl rfl⟩) ?_
          | refine WD_cons (.inl ⟨rfl, m_idxN hty rfl rfl rfl (by assumption) rfl⟩) ?_
          | refine WD_ung rfl rfl ?_
          | refine WD_offT rfl rfl rfl ?_
          | refine WD_offF rfl rfl rfl ?_
          | refine WD_offU rfl rfl rfl ?_
          | refine WD_nil ⟨by kernel_rfl, ?_⟩
          | refine WL_p hty rfl rfl ?_
          | refine WL_nil ?_
          | refine AC_seq ?_
          | refine AC_region ?_
          | refine AC_block ?_
          | refine AC_skip ?_
          | refine AC_condT rfl ?_
          | refine AC_condF rfl ?_
          | refine AC_exit ?_
          | refine AC_ret ?_
          | refine WL_ung rfl rfl ?_
          | refine WL_offT rfl rfl rfl ?_
          | refine WL_offF rfl rfl rfl ?_
          | refine WL_offU rfl rfl rfl ?_
          | refine WL_m rfl (m_idxN hty rfl rfl rfl (by assumption) rfl) ?_
          | refine ends_bool rfl ?_
          | refine WL_cmp rfl rfl rfl rfl (fun _ => ?_) (fun _ => ?_)
          | refine AC_cond rfl (fun _ => ?_) (fun _ => ?_))
        have hco : codeOf a = ⟨3, zT, a.dom, a.sort, a.idx, zT⟩ := by simp [codeOf, hrc]
        rw [hco] at hk
        refine ⟨hlt, trivial, (less_sub ⟨⟨_, rfl, .inl ⟨.refl _, rfl⟩⟩, ⟨_, rfl, .inl ⟨.refl _, rfl⟩⟩, ⟨_, rfl, .inl ⟨.refl _, rfl⟩⟩, ⟨_, rfl, .inl ⟨.refl _, rfl⟩⟩, ⟨_, rfl, see_eq ?_ rfl⟩, trivial⟩ ⟨⟨⟨_, rfl, .refl _⟩, rfl⟩, ⟨⟨_, rfl, ?_⟩, rfl⟩, trivial⟩)⟩
        · exact congrArg (AV.int .i64) (wrap_ok (n := 1) (by omega) (by omega))
        · rw [hk]
          refine .arr (Wkr.snoc ?_)
          repeat' (first | exact Wks.nil | refine Wks.cons (Wk.refl _) ?_ | refine Wks.cons (Wk.full _ _ _) ?_ | refine Wks.cons (Wk.nilF _ _ _) ?_)
      · rename_i hrc
        have hco : codeOf a = ⟨2, a.typ, [], 0, [], zT⟩ := by simp [codeOf, hrc]
        rw [hco] at hk
        refine ⟨hlt, trivial, (less_sub ⟨⟨_, rfl, .inl ⟨.refl _, rfl⟩⟩, ⟨_, rfl, .inl ⟨.refl _, rfl⟩⟩, ⟨_, rfl, .inl ⟨.refl _, rfl⟩⟩, ⟨_, rfl, .inl ⟨.refl _, rfl⟩⟩, ⟨_, rfl, see_eq ?_ rfl⟩, trivial⟩ ⟨⟨⟨_, rfl, .refl _⟩, rfl⟩, ⟨⟨_, rfl, ?_⟩, rfl⟩, trivial⟩)⟩
        · exact congrArg (AV.int .i64) (wrap_ok (n := 1) (by omega) (by omega))
        · rw [hk]
          refine .arr (Wkr.snoc ?_)
          repeat' (first | exact Wks.nil | refine Wks.cons (Wk.refl _) ?_ | refine Wks.cons (Wk.full _ _ _) ?_ | refine Wks.cons (Wk.nilF _ _ _) ?_)
    · have h0 : c.args = [] := by rw [rsA_length] at hc; exact List.length_eq_zero_iff.1 (by omega)
      repeat' (first
        | refine WL_p hty rfl rfl ?_
        | refine WL_nil ?_
        | refine AC_seq ?_
        | refine AC_region ?_
        | refine AC_block ?_
        | refine AC_skip ?_
        | refine AC_condT rfl ?_
        | refine AC_condF rfl ?_
        | refine AC_exit ?_
        | refine AC_ret ?_
        | refine WL_ung rfl rfl ?_
        | refine WL_offT rfl rfl rfl ?_
        | refine WL_offF rfl rfl rfl ?_
        | refine WL_offU rfl rfl rfl ?_
        | refine WL_m rfl (m_idxN hty rfl rfl rfl (by assumption) rfl) ?_
        | refine ends_bool rfl ?_
        | refine WL_cmp rfl rfl rfl rfl (fun _ => ?_) (fun _ => ?_)
        | refine AC_cond rfl (fun _ => ?_) (fun _ => ?_))
      refine AC_drawn [[], [], [1], [1, 2], [], [4], [1, 2, 3, 4, 5], [1, 2, 3, 4, 5, 6], [1, 2, 3, 4, 5, 6, 7], [0, 1, 2, 3, 4, 5, 6, 7, 8], [0, 1, 2, 3, 4, 5, 6, 7, 8, 9]] rfl rfl ?_
      repeat' (first
        | refine WD_cons (.inl ⟨rfl, m_call 0 rfl (twins_spec _ (by omega)) rfl rfl rfl⟩) ?_
        | refine WD_cons (.inl ⟨rfl, m_call 0 rfl (twin_spec _ (by omega)) rfl rfl rfl⟩) ?_
        | refine WD_cons (.inl ⟨rfl, m_appF hty 44 rfl rfl rfl rfl rfl rfl rfl (List.cons_ne_nil _ _) (Nat.le_of_ble_eq_true rfl) rfl rfl rfl⟩) ?_
        | refine WD_cons (.inl ⟨rfl, stepE_ok hty rfl rfl⟩) ?_
        | refine WD_cons (.inl ⟨rfl, m_idxN hty rfl rfl rfl (by assumption) rfl⟩) ?_
        | refine WD_ung rfl rfl ?_
        | refine WD_offT rfl rfl rfl ?_
        | refine WD_offF rfl rfl rfl ?_
        | refine WD_offU rfl rfl rfl ?_
        | refine WD_nil ⟨by kernel_rfl, ?_⟩
        | refine WL_p hty rfl rfl ?_
        | refine WL_nil ?_
        | refine AC_seq ?_
        | refine AC_region ?_
        | refine AC_block ?_
        | refine AC_skip ?_
        | refine AC_condT rfl ?_
        | refine AC_condF rfl ?_
        | refine AC_exit ?_
        | refine AC_ret ?_
        | refine WL_ung rfl rfl ?_
        | refine WL_offT rfl rfl rfl ?_
        | refine WL_offF rfl rfl rfl ?_
        | refine WL_offU rfl rfl rfl ?_
        | refine WL_m rfl (m_idxN hty rfl rfl rfl (by assumption) rfl) ?_
        | refine ends_bool rfl ?_
        | refine WL_cmp rfl rfl rfl rfl (fun _ => ?_) (fun _ => ?_)
        | refine AC_cond rfl (fun _ => ?_) (fun _ => ?_))
      refine ends_less (s2 := ⟨envOf [(2, .arr 44)], bkOf [(44, .arr 36 10 (rsD (compile c)) true)]⟩) (less_sub ⟨⟨_, rfl, .inl ⟨.refl _, rfl⟩⟩, trivial⟩ ⟨⟨⟨_, rfl, ?_⟩, rfl⟩, trivial⟩) (ends_own rfl rfl rfl)
      rw [hfin, h0]
      refine .arr (Wkr.snoc ?_)
      repeat' (first | exact Wks.nil | refine Wks.cons (Wk.refl _) ?_ | refine Wks.cons (Wk.full _ _ _) ?_ | refine Wks.cons (Wk.nilF _ _ _) ?_)
  | succ j =>
    repeat' (first
      | refine WL_p hty rfl rfl ?_
      | refine WL_nil ?_
      | refine AC_seq ?_
      | refine AC_region ?_
      | refine AC_block ?_
      | refine AC_skip ?_
      | refine AC_condT rfl ?_
      | refine AC_condF rfl ?_
      | refine AC_exit ?_
      | refine AC_ret ?_
      | refine WL_ung rfl rfl ?_
      | refine WL_offT rfl rfl rfl ?_
      | refine WL_offF rfl rfl rfl ?_
      | refine WL_offU rfl rfl rfl ?_
      | refine WL_m rfl (m_idxN hty rfl rfl rfl (by assumption) rfl) ?_
      | refine ends_bool rfl ?_)
    refine WL_cmp rfl rfl rfl rfl (fun hc => ?_) (fun hc => ?_)
    · have hlt : j + 1 < c.args.length := by rw [rsA_length] at hc; omega
      obtain ⟨a, ha, hmem⟩ := get_of_lt hlt
      have hks := size_le_sizesA hmem
      unfold Ar.size at hks
      have ra := rsA_get ha
      have hk := key a ha
      repeat' (first
        | refine WL_m rfl (m_idxN (i := j + 1) hty rfl rfl rfl ra rfl) ?_
        | refine WL_call 0 rfl (twin_spec _ (by omega)) rfl rfl rfl ?_
        | refine WL_m rfl (m_appW hty 1003 rfl rfl rfl rfl rfl rfl rfl rfl (List.cons_ne_nil _ _) (by rw [hdl]; show j + 1 + 1 ≤ _; omega) rfl rfl rfl) ?_
        | refine WL_p hty rfl rfl ?_
        | refine WL_nil ?_
        | refine AC_seq ?_
        | refine AC_region ?_
        | refine AC_block ?_
        | refine AC_skip ?_
        | refine AC_condT rfl ?_
        | refine AC_condF rfl ?_
        | refine AC_exit ?_
        | refine AC_ret ?_
        | refine WL_ung rfl rfl ?_
        | refine WL_offT rfl rfl rfl ?_
        | refine WL_offF rfl rfl rfl ?_
        | refine WL_offU rfl rfl rfl ?_
        | refine WL_m rfl (m_idxN hty rfl rfl rfl (by assumption) rfl) ?_
        | refine ends_bool rfl ?_
        | refine WL_cmp rfl rfl rfl rfl (fun _ => ?_) (fun _ => ?_)
        | refine AC_cond rfl (fun _ => ?_) (fun _ => ?_))
      · rename_i hrc
        refine AC_drawn [[], [], [1], [1, 2], [], [4], [], [6], [1, 2, 3, 6, 7], [1, 2, 3, 4, 5, 6, 7, 8], [1, 2, 3, 4, 5, 6, 7, 8, 9], [0, 1, 2, 3, 4, 5, 6, 7, 8, 9, 10], [0, 1, 2, 3, 4, 5, 6, 7, 8, 9, 10, 11]] rfl rfl ?_
        repeat' (first
          | refine WD_cons (.inl ⟨rfl, m_call 0 rfl (twins_spec _ (by omega)) rfl rfl rfl⟩) ?_
          | refine WD_cons (.inl ⟨rfl, m_appW hty 1003 rfl rfl rfl rfl rfl rfl rfl rfl (List.cons_ne_nil _ _) (by rw [hdl]; show j + 1 + 1 ≤ _; omega) rfl rfl rfl⟩) ?_
          | refine WD_cons (.inl ⟨rfl, stepE_ok hty rfl rfl⟩) ?_
          | refine WD_cons (.inl ⟨rfl, m_idxN hty rfl rfl rfl (by assumption) rfl⟩) ?_
          | refine WD_ung rfl rfl ?_
          | refine WD_offT rfl rfl rfl ?_
          | refine WD_offF rfl rfl rfl ?_
          | refine WD_offU rfl rfl rfl ?_
          | refine WD_nil ⟨by kernel_rfl, ?_⟩
          | refine WL_p hty rfl rfl ?_
          | refine WL_nil ?_
          | refine AC_seq ?_
          | refine AC_region ?_
          | refine AC_block ?_
          | refine AC_skip ?_
          | refine AC_condT rfl ?_
          | refine AC_condF rfl ?_
          | refine AC_exit ?_
          | refine AC_ret ?_
          | refine WL_ung rfl rfl ?_
          | refine WL_offT rfl rfl rfl ?_
          | refine WL_offF rfl rfl rfl ?_
          | refine WL_offU rfl rfl rfl ?_
          | refine WL_m rfl (m_idxN hty rfl rfl rfl (by assumption) rfl) ?_
          | refine ends_bool rfl ?_
          | refine WL_cmp rfl rfl rfl rfl (fun _ => ?_) (fun _ => ?_)
          | refine AC_cond rfl (fun _ => ?_) (fun _ => ?_))
        have hco : codeOf a = ⟨3, zT, a.dom, a.sort, a.idx, zT⟩ := by simp [codeOf, hrc]
        rw [hco] at hk
        refine ⟨hlt, trivial, (less_ren [(3, 1003)] rfl ⟨⟨_, rfl, .inl ⟨.refl _, rfl⟩⟩, ⟨_, rfl, .inl ⟨.refl _, rfl⟩⟩, ⟨_, rfl, .inl ⟨.refl _, rfl⟩⟩, ⟨_, rfl, .inl ⟨.refl _, rfl⟩⟩, ⟨_, rfl, see_eq ?_ rfl⟩, trivial⟩ ⟨⟨⟨_, rfl, .refl _⟩, rfl⟩, ⟨⟨_, rfl, ?_⟩, rfl⟩, trivial⟩)⟩
        · exact congrArg (AV.int .i64) ((wrap_ok (by omega) (by omega)).trans (by omega))
        · rw [hk]
          refine .arr (Wkr.snoc ?_)
          repeat' (first | exact Wks.nil | refine Wks.cons (Wk.refl _) ?_ | refine Wks.cons (Wk.full _ _ _) ?_ | refine Wks.cons (Wk.nilF _ _ _) ?_)
      · rename_i hrc
        have hco : codeOf a = ⟨2, a.typ, [], 0, [], zT⟩ := by simp [codeOf, hrc]
        rw [hco] at hk
        refine ⟨hlt, trivial, (less_ren [(3, 1003)] rfl ⟨⟨_, rfl, .inl ⟨.refl _, rfl⟩⟩, ⟨_, rfl, .inl ⟨.refl _, rfl⟩⟩, ⟨_, rfl, .inl ⟨.refl _, rfl⟩⟩, ⟨_, rfl, .inl ⟨.refl _, rfl⟩⟩, ⟨_, rfl, see_eq ?_ rfl⟩, trivial⟩ ⟨⟨⟨_, rfl, .refl _⟩, rfl⟩, ⟨⟨_, rfl, ?_⟩, rfl⟩, trivial⟩)⟩
        · exact congrArg (AV.int .i64) ((wrap_ok (by omega) (by omega)).trans (by omega))
        · rw [hk]
          refine .arr (Wkr.snoc ?_)
          repeat' (first | exact Wks.nil | refine Wks.cons (Wk.refl _) ?_ | refine Wks.cons (Wk.full _ _ _) ?_ | refine Wks.cons (Wk.nilF _ _ _) ?_)
    · have h0 : j + 1 = c.args.length := by rw [rsA_length] at hc; omega
      repeat' (first
        | refine WL_p hty rfl rfl ?_
        | refine WL_nil ?_
        | refine AC_seq ?_
        | refine AC_region ?_
        | refine AC_block ?_
        | refine AC_skip ?_
        | refine AC_condT rfl ?_
        | refine AC_condF rfl ?_
        | refine AC_exit ?_
        | refine AC_ret ?_
        | refine WL_ung rfl rfl ?_
        | refine WL_offT rfl rfl rfl ?_
        | refine WL_offF rfl rfl rfl ?_
        | refine WL_offU rfl rfl rfl ?_
        | refine WL_m rfl (m_idxN hty rfl rfl rfl (by assumption) rfl) ?_
        | refine ends_bool rfl ?_
        | refine WL_cmp rfl rfl rfl rfl (fun _ => ?_) (fun _ => ?_)
        | refine AC_cond rfl (fun _ => ?_) (fun _ => ?_))
      refine AC_drawn [[], [], [1], [1, 2], [], [4], [1, 2, 3, 4, 5], [1, 2, 3, 4, 5, 6], [1, 2, 3, 4, 5, 6, 7], [0, 1, 2, 3, 4, 5, 6, 7, 8], [0, 1, 2, 3, 4, 5, 6, 7, 8, 9]] rfl rfl ?_
      repeat' (first
        | refine WD_cons (.inl ⟨rfl, m_call 0 rfl (twins_spec _ (by omega)) rfl rfl rfl⟩) ?_
        | refine WD_cons (.inl ⟨rfl, m_call 0 rfl (twin_spec _ (by omega)) rfl rfl rfl⟩) ?_
        | refine WD_cons (.inl ⟨rfl, m_appW hty 1003 rfl rfl rfl rfl rfl rfl rfl rfl (List.cons_ne_nil _ _) (by rw [hdl]; show j + 1 + 1 ≤ _; omega) rfl rfl rfl⟩) ?_
        | refine WD_cons (.inl ⟨rfl, stepE_ok hty rfl rfl⟩) ?_
        | refine WD_cons (.inl ⟨rfl, m_idxN hty rfl rfl rfl (by assumption) rfl⟩) ?_
        | refine WD_ung rfl rfl ?_
        | refine WD_offT rfl rfl rfl ?_
        | refine WD_offF rfl rfl rfl ?_
        | refine WD_offU rfl rfl rfl ?_
        | refine WD_nil ⟨by kernel_rfl, ?_⟩
        | refine WL_p hty rfl rfl ?_
        | refine WL_nil ?_
        | refine AC_seq ?_
        | refine AC_region ?_
        | refine AC_block ?_
        | refine AC_skip ?_
        | refine AC_condT rfl ?_
        | refine AC_condF rfl ?_
        | refine AC_exit ?_
        | refine AC_ret ?_
        | refine WL_ung rfl rfl ?_
        | refine WL_offT rfl rfl rfl ?_
        | refine WL_offF rfl rfl rfl ?_
        | refine WL_offU rfl rfl rfl ?_
        | refine WL_m rfl (m_idxN hty rfl rfl rfl (by assumption) rfl) ?_
        | refine ends_bool rfl ?_
        | refine WL_cmp rfl rfl rfl rfl (fun _ => ?_) (fun _ => ?_)
        | refine AC_cond rfl (fun _ => ?_) (fun _ => ?_))
      refine ends_less (s2 := ⟨envOf [(2, .arr 1003)], bkOf [(1003, .arr 36 10 (rsD (compile c)) true)]⟩) (less_sub ⟨⟨_, rfl, .inl ⟨.refl _, rfl⟩⟩, trivial⟩ ⟨⟨⟨_, rfl, ?_⟩, rfl⟩, trivial⟩) (ends_own rfl rfl rfl)
      rw [hfin, h0, List.take_length]
      refine .arr (Wkr.snoc ?_)
      repeat' (first | exact Wks.nil | refine Wks.cons (Wk.refl _) ?_ | refine Wks.cons (Wk.full _ _ _) ?_ | refine Wks.cons (Wk.nilF _ _ _) ?_)

end Go.Proofs.Ytgjoeoojplbhpaa
