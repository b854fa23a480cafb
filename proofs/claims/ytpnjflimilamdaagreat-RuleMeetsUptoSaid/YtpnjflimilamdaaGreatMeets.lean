/-
  What is made is met by what takes it apart.
-/
import Derived.Test.YtpnjflimilamdaaGreatRule2
import Derived.Test.YtpnjflimilamdaaGreatKeep
namespace Go.Proofs.YtpnjflimilamdaaGreat
set_option linter.unusedSimpArgs false
set_option linter.unusedVariables false
open Go.Aw Go.RowKit
attribute [local irreducible] WL AC WD MStep OkOp

theorem AC_reg {P : Program} {w0 : B0} {nt : Nat} {id : Nat} {ops : Array Oper} {b : Bool} {s : AS} {C : Exit → AS → Prop} (h : AC P w0 nt (.region id ops b) s C) : AC P w0 nt (.region id ops b) s C := h

theorem rt_spec (k : Int) (l : List Tm) (full : Bool) (hl : l ≠ []) (hn : l.length ≤ 1000) : FC Tryz.prog 5 [.int .i64 k, .lst 3 (rsT l) full] (aT (.mk k 0 l)) := by
  have hne : rsT l ≠ [] := by
    intro h
    have := rsT_length l
    rw [h] at this
    exact hl (List.length_eq_zero_iff.1 this.symm)
  have hb : (0 : Nat) + (rsT l).length ≤ 4194304 := by rw [rsT_length]; omega
  refine FC_intro hty Tryz.func5 rfl rfl rfl fun w0 => ?_
  repeat' (first
    | refine WL_m rfl (m_appF hty 9 rfl rfl rfl rfl rfl rfl rfl hne hb rfl rfl rfl) ?_
    | refine WL_p hty rfl rfl ?_
    | refine WL_nil ?_
    | refine AC_seq ?_
    | refine AC_region ?_
    | refine AC_block ?_
    | refine AC_skip ?_
    | refine AC_condT rfl ?_
    | refine AC_condF rfl ?_
    | refine AC_exit ?_
    | refine AC_ret ?_
    | refine WL_ung rfl rfl ?_
    | refine WL_offT rfl rfl rfl ?_
    | refine WL_offF rfl rfl rfl ?_
    | refine WL_offU rfl rfl rfl ?_
    | refine WL_m rfl (m_idxN hty rfl rfl rfl (by assumption) rfl) ?_
    | refine ends_bool rfl ?_
    | refine WL_cmp rfl rfl rfl rfl (fun _ => ?_) (fun _ => ?_)
    | refine AC_cond rfl (fun _ => ?_) (fun _ => ?_))
  refine ends_less (less_freeze 9 rfl) ?_
  exact ends_wk rfl rfl (.refl _)
theorem rt1 (k : Int) (a : Tm) : FC Tryz.prog 5 [.int .i64 k, .lst 3 [cT a] true] (aT (.mk k 0 [a])) := by
  have := rt_spec k [a] true (by simp) (by simp); rwa [rs1] at this
theorem rt2 (k : Int) (a b : Tm) : FC Tryz.prog 5 [.int .i64 k, .lst 3 [cT a, cT b] true] (aT (.mk k 0 [a, b])) := by
  have := rt_spec k [a, b] true (by simp) (by simp); rwa [rs2] at this
theorem rt3 (k : Int) (a b c : Tm) : FC Tryz.prog 5 [.int .i64 k, .lst 3 [cT a, cT b, cT c] true] (aT (.mk k 0 [a, b, c])) := by
  have := rt_spec k [a, b, c] true (by simp) (by simp); rwa [rs3] at this
theorem ru_spec (n : Int) : FC Tryz.prog 26 [.int .i64 n] (aT (.mk 2 n [])) := by
  refine FC_intro hty Tryz.func26 rfl rfl rfl fun w0 => ?_
  repeat' (first
    | refine WL_p hty rfl rfl ?_
    | refine WL_nil ?_
    | refine AC_seq ?_
    | refine AC_region ?_
    | refine AC_block ?_
    | refine AC_skip ?_
    | refine AC_condT rfl ?_
    | refine AC_condF rfl ?_
    | refine AC_exit ?_
    | refine AC_ret ?_
    | refine WL_ung rfl rfl ?_
    | refine WL_offT rfl rfl rfl ?_
    | refine WL_offF rfl rfl rfl ?_
    | refine WL_offU rfl rfl rfl ?_
    | refine WL_m rfl (m_idxN hty rfl rfl rfl (by assumption) rfl) ?_
    | refine ends_bool rfl ?_
    | refine WL_cmp rfl rfl rfl rfl (fun _ => ?_) (fun _ => ?_)
    | refine AC_cond rfl (fun _ => ?_) (fun _ => ?_))
  refine ends_wk rfl rfl (.agg ?_)
  repeat' (first | exact Wks.nil | refine Wks.cons (Wk.refl _) ?_ | refine Wks.cons (Wk.full _ _ _) ?_ | refine Wks.cons (Wk.nilF _ _ _) ?_)
theorem rv_spec (n : Int) : FC Tryz.prog 27 [.int .i64 n] (aT (.mk 1 n [])) := by
  refine FC_intro hty Tryz.func27 rfl rfl rfl fun w0 => ?_
  repeat' (first
    | refine WL_p hty rfl rfl ?_
    | refine WL_nil ?_
    | refine AC_seq ?_
    | refine AC_region ?_
    | refine AC_block ?_
    | refine AC_skip ?_
    | refine AC_condT rfl ?_
    | refine AC_condF rfl ?_
    | refine AC_exit ?_
    | refine AC_ret ?_
    | refine WL_ung rfl rfl ?_
    | refine WL_offT rfl rfl rfl ?_
    | refine WL_offF rfl rfl rfl ?_
    | refine WL_offU rfl rfl rfl ?_
    | refine WL_m rfl (m_idxN hty rfl rfl rfl (by assumption) rfl) ?_
    | refine ends_bool rfl ?_
    | refine WL_cmp rfl rfl rfl rfl (fun _ => ?_) (fun _ => ?_)
    | refine AC_cond rfl (fun _ => ?_) (fun _ => ?_))
  refine ends_wk rfl rfl (.agg ?_)
  repeat' (first | exact Wks.nil | refine Wks.cons (Wk.refl _) ?_ | refine Wks.cons (Wk.full _ _ _) ?_ | refine Wks.cons (Wk.nilF _ _ _) ?_)
theorem kterm_same (a : Tm) (h : a.size ≤ 1048576) : FC Tryz.prog 9 [aT a, aT a] (.bool true) := by
  have := kterm_spec a a h; rwa [decide_eq_true rfl] at this

def appW : Tm := .mk 6 0 [.mk 5 0 [.mk 2 1 [], .mk 1 0 []], .mk 2 0 []]
theorem root_w : root0 appW = (.mk 2 0 [], 0) := by kernel_rfl
theorem root_u : root0 (.mk 2 0 []) = (zT, 10) := by kernel_rfl
theorem is_w : is0 appW = true := by kernel_rfl
theorem is_u : is0 (.mk 2 0 []) = false := by kernel_rfl
theorem size_w : appW.size ≤ 1000000 := by
  have : appW.size = 5 := by kernel_rfl
  omega
theorem size_u : (Tm.mk 2 0 []).size ≤ 1000000 := by simp [Tm.size, sizes]

set_option maxHeartbeats 4000000 in
theorem wakes_spec : FC Tryz.prog 11 [] (.bool true) := by
  have h1 := root0_spec appW size_w true 0
  rw [root_w] at h1
  have h2 := root0_spec (.mk 2 0 []) size_u true 0
  rw [root_u] at h2
  have h3 := is0_spec appW size_w true 0
  rw [is_w] at h3
  have h4 := is0_spec (.mk 2 0 []) size_u true 0
  rw [is_u] at h4
  have h5 := check0_spec 0 true
  have h6 := kterm_same (.mk 2 0 []) (by have := size_u; omega)
  have u0 := ru_spec 0
  have u1 := ru_spec 1
  have v0 := rv_spec 0
  have t1 := rt2 5 (.mk 2 1 []) (.mk 1 0 [])
  have t2 := rt2 6 (.mk 5 0 [.mk 2 1 [], .mk 1 0 []]) (.mk 2 0 [])
  refine FC_intro hty Tryz.func11 rfl rfl rfl fun w0 => ?_
  repeat' (first
    | exact absurd rfl ‹_›
    | refine WL_m rfl (m_callF 0 rfl rfl rfl u1 rfl rfl rfl) ?_
    | refine WL_m rfl (m_callF 0 rfl rfl rfl u0 rfl rfl rfl) ?_
    | refine WL_call 0 rfl v0 rfl rfl rfl ?_
    | refine WL_call 0 rfl t1 rfl rfl rfl ?_
    | refine WL_call 0 rfl t2 rfl rfl rfl ?_
    | refine WL_call 0 rfl h1 rfl rfl rfl ?_
    | refine WL_call 0 rfl h2 rfl rfl rfl ?_
    | refine AC_drawn [[], [0], [0, 1], [0, 1, 2], [0, 1, 2, 3], [0, 1, 2, 3, 4], [0, 1, 2, 3, 4, 5], [0, 1, 2, 3, 4, 5, 6], [0, 1, 2, 3, 4, 5, 6], [0, 1, 2, 3, 4, 5, 6, 8], [0, 1, 2, 3, 4, 5, 6, 7, 8, 9], [0, 1, 2, 3, 4, 5, 6, 7, 8, 9, 10], [0, 1, 2, 3, 4, 5, 6, 7, 8, 9, 10, 11], [0, 1, 2, 3, 4, 5, 6, 7, 8, 9, 10, 11, 12], [0, 1, 2, 3, 4, 5, 6, 7, 8, 9, 10, 11, 12, 13], [0, 1, 2, 3, 4, 5, 6, 7, 8, 9, 10, 11, 12, 13, 14], [0, 1, 2, 3, 4, 5, 6, 7, 8, 9, 10, 11, 12, 13, 14, 15], [0, 1, 2, 3, 4, 5, 6, 7, 8, 9, 10, 11, 12, 13, 14, 15, 16], [0, 1, 2, 3, 4, 5, 6, 7, 8, 9, 10, 11, 12, 13, 14, 15, 16, 17], [0, 1, 2, 3, 4, 5, 6, 7, 8, 9, 10, 11, 12, 13, 14, 15, 16, 17, 18], [0, 1, 2, 3, 4, 5, 6, 7, 8, 9, 10, 11, 12, 13, 14, 15, 16, 17, 18, 19], [0, 1, 2, 3, 4, 5, 6, 7, 8, 9, 10, 11, 12, 13, 14, 15, 16, 17, 18, 19, 20], [0, 1, 2, 3, 4, 5, 6, 7, 8, 9, 10, 11, 12, 13, 14, 15, 16, 17, 18, 19, 20, 21], [0, 1, 2, 3, 4, 5, 6, 7, 8, 9, 10, 11, 12, 13, 14, 15, 16, 17, 18, 19, 20, 21, 22], [0, 1, 2, 3, 4, 5, 6, 7, 8, 9, 10, 11, 12, 13, 14, 15, 16, 17, 18, 19, 20, 21, 22, 23], [0, 1, 2, 3, 4, 5, 6, 7, 8, 9, 10, 11, 12, 13, 14, 15, 16, 17, 18, 19, 20, 21, 22, 23, 24], [0, 1, 2, 3, 4, 5, 6, 7, 8, 9, 10, 11, 12, 13, 14, 15, 16, 17, 18, 19, 20, 21, 22, 23, 24, 25]] rfl rfl ?_
    | refine WD_cons (.inl ⟨rfl, m_callF 0 rfl rfl rfl u0 rfl rfl rfl⟩) ?_
    | refine WD_call 0 rfl h6 rfl rfl rfl ?_
    | refine WD_call 0 rfl h3 rfl rfl rfl ?_
    | refine WD_call 0 rfl h4 rfl rfl rfl ?_
    | refine WD_call 0 rfl h5 rfl rfl rfl ?_
    | refine WD_cons (.inl ⟨rfl, stepE_ok hty rfl rfl⟩) ?_
    | refine WD_cons (.inl ⟨rfl, m_idxN hty rfl rfl rfl (by assumption) rfl⟩) ?_
    | refine WD_ung rfl rfl ?_
    | refine WD_offT rfl rfl rfl ?_
    | refine WD_offF rfl rfl rfl ?_
    | refine WD_offU rfl rfl rfl ?_
    | refine WD_nil ⟨by kernel_rfl, ?_⟩
    | refine WL_p hty rfl rfl ?_
    | refine WL_nil ?_
    | refine AC_seq ?_
    | refine AC_region ?_
    | refine AC_block ?_
    | refine AC_skip ?_
    | refine AC_condT rfl ?_
    | refine AC_condF rfl ?_
    | refine AC_exit ?_
    | refine AC_ret ?_
    | refine WL_ung rfl rfl ?_
    | refine WL_offT rfl rfl rfl ?_
    | refine WL_offF rfl rfl rfl ?_
    | refine WL_offU rfl rfl rfl ?_
    | refine WL_m rfl (m_idxN hty rfl rfl rfl (by assumption) rfl) ?_
    | refine ends_bool rfl ?_
    | refine WL_cmp rfl rfl rfl rfl (fun _ => ?_) (fun _ => ?_)
    | refine AC_cond rfl (fun _ => ?_) (fun _ => ?_)
    | refine WD_cmp rfl rfl rfl rfl (fun _ => ?_) (fun _ => ?_))
  all_goals rfl

/-! the plain law -/
theorem inst_bad (t : Tm) (l : List Tm) (u : Int) (h : (instT t l u).2 ≠ 0) : (instT t l u).1 = zT := by
  unfold instT at h ⊢
  split at h
  · rename_i q; rw [if_pos q]
  · rename_i q
    rw [if_neg q]
    split at h
    · rename_i q; rw [if_pos q]
    · rename_i q
      rw [if_neg q]
      split at h
      · rename_i q; rw [if_pos q]
      · rename_i q
        rw [if_neg q]
        split at h
        · rename_i q; rw [if_pos q]
        · exact absurd rfl h
theorem root0_app (a b c : Tm) (h : checkT (.mk 6 0 [.mk 5 0 [a, b], c]) = 0) : root0 (.mk 6 0 [.mk 5 0 [a, b], c]) = ((instT b [c] 0).1, (instT b [c] 0).2) := by
  have hl : look0 (.mk 6 0 [.mk 5 0 [a, b], c]) = .inst (.mk 5 0 [a, b]) (.mk 6 0 [.mk 5 0 [a, b], c]) := rfl
  unfold root0
  rw [if_neg (by omega), hl]
  show (if (instT b [c] 0).2 ≠ 0 then (zT, (instT b [c] 0).2) else ((instT b [c] 0).1, 0)) = _
  split
  · rename_i q; rw [inst_bad b [c] 0 q]
  · rename_i q
    have : (instT b [c] 0).2 = 0 := by omega
    rw [this]
theorem is0_app (a b c : Tm) (h : checkT (.mk 6 0 [.mk 5 0 [a, b], c]) = 0) : is0 (.mk 6 0 [.mk 5 0 [a, b], c]) = true := by
  unfold is0; rw [h]; rfl
theorem root0_fst (a b c : Tm) (h : checkT (.mk 9 0 [.mk 8 0 [a, b, c]]) = 0) : root0 (.mk 9 0 [.mk 8 0 [a, b, c]]) = (b, 0) := by
  unfold root0; rw [if_neg (by omega)]; rfl
theorem check_snd (a b c : Tm) : checkT (.mk 10 0 [.mk 8 0 [a, b, c]]) = checkT (.mk 9 0 [.mk 8 0 [a, b, c]]) := by
  have h1 : (Tm.mk 10 0 [.mk 8 0 [a, b, c]]).size = (Tm.mk 9 0 [.mk 8 0 [a, b, c]]).size := by simp [Tm.size]
  have h2 : (Tm.mk 10 0 [.mk 8 0 [a, b, c]]).depth = (Tm.mk 9 0 [.mk 8 0 [a, b, c]]).depth := by simp [Tm.depth]
  have h3 : formedT (.mk 10 0 [.mk 8 0 [a, b, c]]) = formedT (.mk 9 0 [.mk 8 0 [a, b, c]]) := by rw [formedT, formedT]; rfl
  unfold checkT; rw [h1, h2, h3]
theorem root0_snd (a b c : Tm) (h : checkT (.mk 9 0 [.mk 8 0 [a, b, c]]) = 0) : root0 (.mk 10 0 [.mk 8 0 [a, b, c]]) = (c, 0) := by
  rw [← check_snd] at h
  unfold root0; rw [if_neg (by omega)]; rfl
theorem root0_jay (a b c : Tm) (h : checkT (.mk 13 0 [a, b, .mk 12 0 [a, c]]) = 0) : root0 (.mk 13 0 [a, b, .mk 12 0 [a, c]]) = (.mk 6 0 [b, c], 0) := by
  unfold root0; rw [if_neg (by omega)]; rfl

theorem heavy3 (a b c : Tm) (h : sizes [a, b, c] ≤ 1048576) : FC Tryz.prog 4 [.lst 3 [cT a, cT b, cT c] true] (.bool (heavyT [a, b, c])) := by
  have := (heavy2_spec [a, b, c] h).args (xs := [.lst 3 (rsT [a, b, c]) true]) (.cons (.full _ _ _) .nil)
  rwa [rs3] at this

set_option maxHeartbeats 8000000 in
theorem meets_spec (a b c : Tm) (h : sizes [a, b, c] ≤ 1048576) : FC Tryz.prog 3 [aT a, aT b, aT c] (.bool true) := by
  have hv := heavy3 a b c h
  by_cases h0 : heavyT [a, b, c] = true
  · rw [h0] at hv
    refine FC_intro hty Tryz.func3 rfl rfl rfl fun w0 => ?_
    repeat' (first
      | refine WL_p hty rfl rfl ?_
      | refine WL_nil ?_
      | refine AC_seq ?_
      | refine AC_region ?_
      | refine AC_block ?_
      | refine AC_skip ?_
      | refine AC_condT rfl ?_
      | refine AC_condF rfl ?_
      | refine AC_exit ?_
      | refine AC_ret ?_
      | refine WL_ung rfl rfl ?_
      | refine WL_offT rfl rfl rfl ?_
      | refine WL_offF rfl rfl rfl ?_
      | refine WL_offU rfl rfl rfl ?_
      | refine WL_m rfl (m_idxN hty rfl rfl rfl (by assumption) rfl) ?_
      | refine ends_bool rfl ?_
      | refine WL_call 0 rfl hv rfl rfl rfl ?_
      | refine WL_cmp rfl rfl rfl rfl (fun _ => ?_) (fun _ => ?_)
      | refine AC_cond rfl (fun _ => ?_) (fun _ => ?_))
    rfl
  have h0 : heavyT [a, b, c] = false := by simpa using h0
  rw [h0] at hv
  have hsz : sizes [a, b, c] ≤ 9000 := by
    simp only [heavyT, Bool.or_eq_false_iff, decide_eq_false_iff_not] at h0
    omega
  simp only [sizes] at hsz
  have t1 := rt2 5 a b
  have t2 := rt2 6 (.mk 5 0 [a, b]) c
  have e1 : (Tm.mk 6 0 [.mk 5 0 [a, b], c]).size ≤ 1000000 := by simp only [Tm.size, sizes]; omega
  have hc1 := check_spec (.mk 6 0 [.mk 5 0 [a, b], c]) (by omega)
  by_cases k1 : checkT (.mk 6 0 [.mk 5 0 [a, b], c]) = 0
  case neg =>
    refine FC_intro hty Tryz.func3 rfl rfl rfl fun w0 => ?_
    repeat' (first
      | exact absurd (by assumption) k1
      | exact absurd (show checkT _ ≠ 0 from k1) ‹_›
      | refine AC_drawn [[], [], [], [], [2, 3], [1, 2, 3, 4], [], [1, 2, 3, 4, 5, 6], [0, 1, 2, 3, 4, 5, 6, 7], [], [0, 1, 2, 3, 4, 5, 6, 7, 8, 9]] rfl rfl ?_
      | refine WD_cons (.inl ⟨rfl, stepE_ok hty rfl rfl⟩) ?_
      | refine WD_cons (.inl ⟨rfl, m_idxN hty rfl rfl rfl (by assumption) rfl⟩) ?_
      | refine WD_ung rfl rfl ?_
      | refine WD_offT rfl rfl rfl ?_
      | refine WD_offF rfl rfl rfl ?_
      | refine WD_offU rfl rfl rfl ?_
      | refine WD_nil ⟨by kernel_rfl, ?_⟩
      | refine WL_p hty rfl rfl ?_
      | refine WL_nil ?_
      | refine AC_seq ?_
      | refine AC_region ?_
      | refine AC_block ?_
      | refine AC_skip ?_
      | refine AC_condT rfl ?_
      | refine AC_condF rfl ?_
      | refine AC_exit ?_
      | refine AC_ret ?_
      | refine WL_ung rfl rfl ?_
      | refine WL_offT rfl rfl rfl ?_
      | refine WL_offF rfl rfl rfl ?_
      | refine WL_offU rfl rfl rfl ?_
      | refine WL_m rfl (m_idxN hty rfl rfl rfl (by assumption) rfl) ?_
      | refine ends_bool rfl ?_
      | refine WL_call 0 rfl hv rfl rfl rfl ?_
      | refine WD_cons (.inl ⟨rfl, m_callF 0 rfl rfl rfl t1 rfl rfl rfl⟩) ?_
      | refine WD_cons (.inl ⟨rfl, m_callF 0 rfl rfl rfl t2 rfl rfl rfl⟩) ?_
      | refine WL_call 0 rfl hc1 rfl rfl rfl ?_
      | refine WL_cmp rfl rfl rfl rfl (fun _ => ?_) (fun _ => ?_)
      | refine AC_cond rfl (fun _ => ?_) (fun _ => ?_))
    rfl
  rw [k1] at hc1
  have hr1 := root0_spec (.mk 6 0 [.mk 5 0 [a, b], c]) e1 true 0
  rw [root0_app a b c k1] at hr1
  have hi1 := (inst_spec b [c] 0 (by omega) (by simp only [sizes]; omega)).args (xs := [aT b, .lst 3 [cT c] true, .int .i64 0]) (.cons (.refl _) (.cons (by rw [← rs1]; exact .full _ _ _) (.cons (.refl _) .nil)))
  have hk1 := kterm_same (instT b [c] 0).1 (by have := inst_size b [c] 0; omega)
  have his := is0_spec (.mk 6 0 [.mk 5 0 [a, b], c]) e1 true 0
  rw [is0_app a b c k1] at his
  have t3 := rt3 8 a b c
  have t4 := rt1 9 (.mk 8 0 [a, b, c])
  have t5 := rt1 10 (.mk 8 0 [a, b, c])
  have e2 : (Tm.mk 9 0 [.mk 8 0 [a, b, c]]).size ≤ 1000000 := by simp only [Tm.size, sizes]; omega
  have e3 : (Tm.mk 10 0 [.mk 8 0 [a, b, c]]).size ≤ 1000000 := by simp only [Tm.size, sizes]; omega
  have hr2 := root0_spec (.mk 9 0 [.mk 8 0 [a, b, c]]) e2 true 0
  have hr3 := root0_spec (.mk 10 0 [.mk 8 0 [a, b, c]]) e3 true 0
  have hc2 := check_spec (.mk 9 0 [.mk 8 0 [a, b, c]]) (by omega)
  by_cases k2 : checkT (.mk 9 0 [.mk 8 0 [a, b, c]]) = 0
  case neg =>
    refine FC_intro hty Tryz.func3 rfl rfl rfl fun w0 => ?_
    repeat' (first
      | exact absurd (show checkT _ ≠ 0 from k2) ‹_›
      | exact absurd rfl ‹_›
      | refine AC_drawn [[], [], [], [], [2, 3], [1, 2, 3, 4], [], [1, 2, 3, 4, 5, 6], [0, 1, 2, 3, 4, 5, 6, 7], [], [0, 1, 2, 3, 4, 5, 6, 7, 8, 9]] rfl rfl ?_
      | (refine AC_region (id := 5) ?_; refine WL_less (less_sub (l := [(3, _), (4, _), (5, _), (7, _), (8, _)]) (bl := [(3, _), (4, _), (5, _), (8, _)]) ⟨⟨_, rfl, .inl ⟨.refl _, rfl⟩⟩, ⟨_, rfl, .inl ⟨.refl _, rfl⟩⟩, ⟨_, rfl, .inl ⟨.refl _, rfl⟩⟩, ⟨_, rfl, .inl ⟨.refl _, rfl⟩⟩, ⟨_, rfl, .inl ⟨.refl _, rfl⟩⟩, trivial⟩ ⟨⟨⟨_, rfl, .refl _⟩, rfl⟩, ⟨⟨_, rfl, .refl _⟩, rfl⟩, ⟨⟨_, rfl, .refl _⟩, rfl⟩, ⟨⟨_, rfl, .refl _⟩, rfl⟩, trivial⟩) ?_)
      | (refine AC_region (id := 9) ?_; refine WL_less (less_sub (l := [(3, _), (4, _), (5, _), (7, _), (8, _), (9, _), (10, _), (11, _), (12, _)]) (bl := [(3, _), (4, _), (5, _), (8, _), (9, _), (11, _)]) ⟨⟨_, rfl, .inl ⟨.refl _, rfl⟩⟩, ⟨_, rfl, .inl ⟨.refl _, rfl⟩⟩, ⟨_, rfl, .inl ⟨.refl _, rfl⟩⟩, ⟨_, rfl, .inl ⟨.refl _, rfl⟩⟩, ⟨_, rfl, .inl ⟨.refl _, rfl⟩⟩, ⟨_, rfl, .inl ⟨.refl _, rfl⟩⟩, ⟨_, rfl, .inl ⟨.refl _, rfl⟩⟩, ⟨_, rfl, .inl ⟨.refl _, rfl⟩⟩, ⟨_, rfl, .inl ⟨.refl _, rfl⟩⟩, trivial⟩ ⟨⟨⟨_, rfl, .refl _⟩, rfl⟩, ⟨⟨_, rfl, .refl _⟩, rfl⟩, ⟨⟨_, rfl, .refl _⟩, rfl⟩, ⟨⟨_, rfl, .refl _⟩, rfl⟩, ⟨⟨_, rfl, .refl _⟩, rfl⟩, ⟨⟨_, rfl, .refl _⟩, rfl⟩, trivial⟩) ?_)
      | (refine AC_region (id := 11) ?_; refine WL_less (less_sub (l := [(3, _), (4, _), (5, _), (7, _)]) (bl := [(3, _), (4, _), (5, _)]) ⟨⟨_, rfl, .inl ⟨.refl _, rfl⟩⟩, ⟨_, rfl, .inl ⟨.refl _, rfl⟩⟩, ⟨_, rfl, .inl ⟨.refl _, rfl⟩⟩, ⟨_, rfl, .inl ⟨.refl _, rfl⟩⟩, trivial⟩ ⟨⟨⟨_, rfl, .refl _⟩, rfl⟩, ⟨⟨_, rfl, .refl _⟩, rfl⟩, ⟨⟨_, rfl, .refl _⟩, rfl⟩, trivial⟩) ?_)
      | (refine AC_region (id := 13) ?_; refine WL_less (less_sub (l := [(3, _), (4, _), (5, _), (7, _), (10, _), (13, _), (14, _)]) (bl := [(3, _), (4, _), (5, _), (13, _), (14, _)]) ⟨⟨_, rfl, .inl ⟨.refl _, rfl⟩⟩, ⟨_, rfl, .inl ⟨.refl _, rfl⟩⟩, ⟨_, rfl, .inl ⟨.refl _, rfl⟩⟩, ⟨_, rfl, .inl ⟨.refl _, rfl⟩⟩, ⟨_, rfl, .inl ⟨.refl _, rfl⟩⟩, ⟨_, rfl, .inl ⟨.refl _, rfl⟩⟩, ⟨_, rfl, .inl ⟨.refl _, rfl⟩⟩, trivial⟩ ⟨⟨⟨_, rfl, .refl _⟩, rfl⟩, ⟨⟨_, rfl, .refl _⟩, rfl⟩, ⟨⟨_, rfl, .refl _⟩, rfl⟩, ⟨⟨_, rfl, .refl _⟩, rfl⟩, ⟨⟨_, rfl, .refl _⟩, rfl⟩, trivial⟩) ?_)
      | (refine AC_region (id := 16) ?_; refine WL_less (less_sub (l := [(3, _), (4, _), (5, _), (7, _), (10, _), (12, _), (14, _), (15, _)]) (bl := [(3, _), (4, _), (5, _), (14, _), (15, _)]) ⟨⟨_, rfl, .inl ⟨.refl _, rfl⟩⟩, ⟨_, rfl, .inl ⟨.refl _, rfl⟩⟩, ⟨_, rfl, .inl ⟨.refl _, rfl⟩⟩, ⟨_, rfl, .inl ⟨.refl _, rfl⟩⟩, ⟨_, rfl, .inl ⟨.refl _, rfl⟩⟩, ⟨_, rfl, .inl ⟨.refl _, rfl⟩⟩, ⟨_, rfl, .inl ⟨.refl _, rfl⟩⟩, ⟨_, rfl, .inl ⟨.refl _, rfl⟩⟩, trivial⟩ ⟨⟨⟨_, rfl, .refl _⟩, rfl⟩, ⟨⟨_, rfl, .refl _⟩, rfl⟩, ⟨⟨_, rfl, .refl _⟩, rfl⟩, ⟨⟨_, rfl, .refl _⟩, rfl⟩, ⟨⟨_, rfl, .refl _⟩, rfl⟩, trivial⟩) ?_)
      | (refine AC_region (id := 19) ?_; refine WL_less (less_sub (l := [(3, _), (4, _), (5, _), (7, _), (16, _)]) (bl := [(3, _), (4, _), (5, _), (16, _)]) ⟨⟨_, rfl, .inl ⟨.refl _, rfl⟩⟩, ⟨_, rfl, .inl ⟨.refl _, rfl⟩⟩, ⟨_, rfl, .inl ⟨.refl _, rfl⟩⟩, ⟨_, rfl, .inl ⟨.refl _, rfl⟩⟩, ⟨_, rfl, .inl ⟨.refl _, rfl⟩⟩, trivial⟩ ⟨⟨⟨_, rfl, .refl _⟩, rfl⟩, ⟨⟨_, rfl, .refl _⟩, rfl⟩, ⟨⟨_, rfl, .refl _⟩, rfl⟩, ⟨⟨_, rfl, .refl _⟩, rfl⟩, trivial⟩) ?_)
      | refine WD_cons (.inl ⟨rfl, stepE_ok hty rfl rfl⟩) ?_
      | refine WD_cons (.inl ⟨rfl, m_idxN hty rfl rfl rfl (by assumption) rfl⟩) ?_
      | refine WD_ung rfl rfl ?_
      | refine WD_offT rfl rfl rfl ?_
      | refine WD_offF rfl rfl rfl ?_
      | refine WD_offU rfl rfl rfl ?_
      | refine WD_nil ⟨by kernel_rfl, ?_⟩
      | refine WL_p hty rfl rfl ?_
      | refine WL_nil ?_
      | refine AC_seq ?_
      | refine AC_region ?_
      | refine AC_block ?_
      | refine AC_skip ?_
      | refine AC_condT rfl ?_
      | refine AC_condF rfl ?_
      | refine AC_exit ?_
      | refine AC_ret ?_
      | refine WL_ung rfl rfl ?_
      | refine WL_offT rfl rfl rfl ?_
      | refine WL_offF rfl rfl rfl ?_
      | refine WL_offU rfl rfl rfl ?_
      | refine WL_m rfl (m_idxN hty rfl rfl rfl (by assumption) rfl) ?_
      | refine ends_bool rfl ?_
      | refine WL_call 0 rfl hv rfl rfl rfl ?_
      | refine WD_cons (.inl ⟨rfl, m_callF 0 rfl rfl rfl t1 rfl rfl rfl⟩) ?_
      | refine WD_cons (.inl ⟨rfl, m_callF 0 rfl rfl rfl t2 rfl rfl rfl⟩) ?_
      | refine WL_call 0 rfl hc1 rfl rfl rfl ?_
      | refine WL_call 0 rfl hr1 rfl rfl rfl ?_
      | refine WL_call 0 rfl hi1 rfl rfl rfl ?_
      | refine WL_call 0 rfl hk1 rfl rfl rfl ?_
      | refine WL_call 0 rfl his rfl rfl rfl ?_
      | refine WL_m rfl (m_callF 0 rfl rfl rfl t3 rfl rfl rfl) ?_
      | refine WL_m rfl (m_callF 0 rfl rfl rfl t4 rfl rfl rfl) ?_
      | refine WL_m rfl (m_callF 0 rfl rfl rfl t5 rfl rfl rfl) ?_
      | refine WL_call 0 rfl hr2 rfl rfl rfl ?_
      | refine WL_call 0 rfl hr3 rfl rfl rfl ?_
      | refine WL_call 0 rfl hc2 rfl rfl rfl ?_
      | refine WL_cmp rfl rfl rfl rfl (fun _ => ?_) (fun _ => ?_)
      | refine AC_cond rfl (fun _ => ?_) (fun _ => ?_))
    rfl
  rw [k2] at hc2
  rw [root0_fst a b c k2] at hr2
  rw [root0_snd a b c k2] at hr3
  have hkb := kterm_same b (by omega)
  have hkc := kterm_same c (by omega)
  have t6 := rt2 12 a c
  have t7 := rt3 13 a b (.mk 12 0 [a, c])
  have t8 := rt2 6 b c
  have e4 : (Tm.mk 13 0 [a, b, .mk 12 0 [a, c]]).size ≤ 1000000 := by simp only [Tm.size, sizes]; omega
  have hc3 := check_spec (.mk 13 0 [a, b, .mk 12 0 [a, c]]) (by omega)
  by_cases k3 : checkT (.mk 13 0 [a, b, .mk 12 0 [a, c]]) = 0
  case neg =>
    refine FC_intro hty Tryz.func3 rfl rfl rfl fun w0 => ?_
    repeat' (first
      | exact absurd (show checkT _ ≠ 0 from k3) ‹_›
      | exact absurd rfl ‹_›
      | refine AC_drawn [[], [], [], [], [2, 3], [1, 2, 3, 4], [], [1, 2, 3, 4, 5, 6], [0, 1, 2, 3, 4, 5, 6, 7], [], [0, 1, 2, 3, 4, 5, 6, 7, 8, 9]] rfl rfl ?_
      | (refine AC_region (id := 5) ?_; refine WL_less (less_sub (l := [(3, _), (4, _), (5, _), (7, _), (8, _)]) (bl := [(3, _), (4, _), (5, _), (8, _)]) ⟨⟨_, rfl, .inl ⟨.refl _, rfl⟩⟩, ⟨_, rfl, .inl ⟨.refl _, rfl⟩⟩, ⟨_, rfl, .inl ⟨.refl _, rfl⟩⟩, ⟨_, rfl, .inl ⟨.refl _, rfl⟩⟩, ⟨_, rfl, .inl ⟨.refl _, rfl⟩⟩, trivial⟩ ⟨⟨⟨_, rfl, .refl _⟩, rfl⟩, ⟨⟨_, rfl, .refl _⟩, rfl⟩, ⟨⟨_, rfl, .refl _⟩, rfl⟩, ⟨⟨_, rfl, .refl _⟩, rfl⟩, trivial⟩) ?_)
      | (refine AC_region (id := 9) ?_; refine WL_less (less_sub (l := [(3, _), (4, _), (5, _), (7, _), (8, _), (9, _), (10, _), (11, _), (12, _)]) (bl := [(3, _), (4, _), (5, _), (8, _), (9, _), (11, _)]) ⟨⟨_, rfl, .inl ⟨.refl _, rfl⟩⟩, ⟨_, rfl, .inl ⟨.refl _, rfl⟩⟩, ⟨_, rfl, .inl ⟨.refl _, rfl⟩⟩, ⟨_, rfl, .inl ⟨.refl _, rfl⟩⟩, ⟨_, rfl, .inl ⟨.refl _, rfl⟩⟩, ⟨_, rfl, .inl ⟨.refl _, rfl⟩⟩, ⟨_, rfl, .inl ⟨.refl _, rfl⟩⟩, ⟨_, rfl, .inl ⟨.refl _, rfl⟩⟩, ⟨_, rfl, .inl ⟨.refl _, rfl⟩⟩, trivial⟩ ⟨⟨⟨_, rfl, .refl _⟩, rfl⟩, ⟨⟨_, rfl, .refl _⟩, rfl⟩, ⟨⟨_, rfl, .refl _⟩, rfl⟩, ⟨⟨_, rfl, .refl _⟩, rfl⟩, ⟨⟨_, rfl, .refl _⟩, rfl⟩, ⟨⟨_, rfl, .refl _⟩, rfl⟩, trivial⟩) ?_)
      | (refine AC_region (id := 11) ?_; refine WL_less (less_sub (l := [(3, _), (4, _), (5, _), (7, _)]) (bl := [(3, _), (4, _), (5, _)]) ⟨⟨_, rfl, .inl ⟨.refl _, rfl⟩⟩, ⟨_, rfl, .inl ⟨.refl _, rfl⟩⟩, ⟨_, rfl, .inl ⟨.refl _, rfl⟩⟩, ⟨_, rfl, .inl ⟨.refl _, rfl⟩⟩, trivial⟩ ⟨⟨⟨_, rfl, .refl _⟩, rfl⟩, ⟨⟨_, rfl, .refl _⟩, rfl⟩, ⟨⟨_, rfl, .refl _⟩, rfl⟩, trivial⟩) ?_)
      | (refine AC_region (id := 13) ?_; refine WL_less (less_sub (l := [(3, _), (4, _), (5, _), (7, _), (10, _), (13, _), (14, _)]) (bl := [(3, _), (4, _), (5, _), (13, _), (14, _)]) ⟨⟨_, rfl, .inl ⟨.refl _, rfl⟩⟩, ⟨_, rfl, .inl ⟨.refl _, rfl⟩⟩, ⟨_, rfl, .inl ⟨.refl _, rfl⟩⟩, ⟨_, rfl, .inl ⟨.refl _, rfl⟩⟩, ⟨_, rfl, .inl ⟨.refl _, rfl⟩⟩, ⟨_, rfl, .inl ⟨.refl _, rfl⟩⟩, ⟨_, rfl, .inl ⟨.refl _, rfl⟩⟩, trivial⟩ ⟨⟨⟨_, rfl, .refl _⟩, rfl⟩, ⟨⟨_, rfl, .refl _⟩, rfl⟩, ⟨⟨_, rfl, .refl _⟩, rfl⟩, ⟨⟨_, rfl, .refl _⟩, rfl⟩, ⟨⟨_, rfl, .refl _⟩, rfl⟩, trivial⟩) ?_)
      | (refine AC_region (id := 16) ?_; refine WL_less (less_sub (l := [(3, _), (4, _), (5, _), (7, _), (10, _), (12, _), (14, _), (15, _)]) (bl := [(3, _), (4, _), (5, _), (14, _), (15, _)]) ⟨⟨_, rfl, .inl ⟨.refl _, rfl⟩⟩, ⟨_, rfl, .inl ⟨.refl _, rfl⟩⟩, ⟨_, rfl, .inl ⟨.refl _, rfl⟩⟩, ⟨_, rfl, .inl ⟨.refl _, rfl⟩⟩, ⟨_, rfl, .inl ⟨.refl _, rfl⟩⟩, ⟨_, rfl, .inl ⟨.refl _, rfl⟩⟩, ⟨_, rfl, .inl ⟨.refl _, rfl⟩⟩, ⟨_, rfl, .inl ⟨.refl _, rfl⟩⟩, trivial⟩ ⟨⟨⟨_, rfl, .refl _⟩, rfl⟩, ⟨⟨_, rfl, .refl _⟩, rfl⟩, ⟨⟨_, rfl, .refl _⟩, rfl⟩, ⟨⟨_, rfl, .refl _⟩, rfl⟩, ⟨⟨_, rfl, .refl _⟩, rfl⟩, trivial⟩) ?_)
      | (refine AC_region (id := 19) ?_; refine WL_less (less_sub (l := [(3, _), (4, _), (5, _), (7, _), (16, _)]) (bl := [(3, _), (4, _), (5, _), (16, _)]) ⟨⟨_, rfl, .inl ⟨.refl _, rfl⟩⟩, ⟨_, rfl, .inl ⟨.refl _, rfl⟩⟩, ⟨_, rfl, .inl ⟨.refl _, rfl⟩⟩, ⟨_, rfl, .inl ⟨.refl _, rfl⟩⟩, ⟨_, rfl, .inl ⟨.refl _, rfl⟩⟩, trivial⟩ ⟨⟨⟨_, rfl, .refl _⟩, rfl⟩, ⟨⟨_, rfl, .refl _⟩, rfl⟩, ⟨⟨_, rfl, .refl _⟩, rfl⟩, ⟨⟨_, rfl, .refl _⟩, rfl⟩, trivial⟩) ?_)
      | (refine AC_reg (id := 18) ?_; refine AC_less (less_sub (l := [(3, _), (4, _), (5, _), (7, _)]) (bl := [(3, _), (4, _), (5, _)]) ⟨⟨_, rfl, .inl ⟨.refl _, rfl⟩⟩, ⟨_, rfl, .inl ⟨.refl _, rfl⟩⟩, ⟨_, rfl, .inl ⟨.refl _, rfl⟩⟩, ⟨_, rfl, .inl ⟨.refl _, rfl⟩⟩, trivial⟩ ⟨⟨⟨_, rfl, .refl _⟩, rfl⟩, ⟨⟨_, rfl, .refl _⟩, rfl⟩, ⟨⟨_, rfl, .refl _⟩, rfl⟩, trivial⟩) ?_; refine AC_drawn [[], [], [], [], [], [], [4, 5], [3, 4, 5, 6], [1, 2, 3, 4, 5, 6, 7], [0, 1, 2, 3, 4, 5, 6, 7, 8], [], [0, 1, 2, 3, 4, 5, 6, 7, 8, 9, 10]] rfl rfl ?_)
      | refine WD_cons (.inl ⟨rfl, stepE_ok hty rfl rfl⟩) ?_
      | refine WD_cons (.inl ⟨rfl, m_idxN hty rfl rfl rfl (by assumption) rfl⟩) ?_
      | refine WD_ung rfl rfl ?_
      | refine WD_offT rfl rfl rfl ?_
      | refine WD_offF rfl rfl rfl ?_
      | refine WD_offU rfl rfl rfl ?_
      | refine WD_nil ⟨by kernel_rfl, ?_⟩
      | refine WL_p hty rfl rfl ?_
      | refine WL_nil ?_
      | refine AC_seq ?_
      | refine AC_region ?_
      | refine AC_block ?_
      | refine AC_skip ?_
      | refine AC_condT rfl ?_
      | refine AC_condF rfl ?_
      | refine AC_exit ?_
      | refine AC_ret ?_
      | refine WL_ung rfl rfl ?_
      | refine WL_offT rfl rfl rfl ?_
      | refine WL_offF rfl rfl rfl ?_
      | refine WL_offU rfl rfl rfl ?_
      | refine WL_m rfl (m_idxN hty rfl rfl rfl (by assumption) rfl) ?_
      | refine ends_bool rfl ?_
      | refine WL_call 0 rfl hv rfl rfl rfl ?_
      | refine WD_cons (.inl ⟨rfl, m_callF 0 rfl rfl rfl t1 rfl rfl rfl⟩) ?_
      | refine WD_cons (.inl ⟨rfl, m_callF 0 rfl rfl rfl t2 rfl rfl rfl⟩) ?_
      | refine WL_call 0 rfl hc1 rfl rfl rfl ?_
      | refine WL_call 0 rfl hr1 rfl rfl rfl ?_
      | refine WL_call 0 rfl hi1 rfl rfl rfl ?_
      | refine WL_call 0 rfl hk1 rfl rfl rfl ?_
      | refine WL_call 0 rfl his rfl rfl rfl ?_
      | refine WL_m rfl (m_callF 0 rfl rfl rfl t3 rfl rfl rfl) ?_
      | refine WL_m rfl (m_callF 0 rfl rfl rfl t4 rfl rfl rfl) ?_
      | refine WL_m rfl (m_callF 0 rfl rfl rfl t5 rfl rfl rfl) ?_
      | refine WL_call 0 rfl hr2 rfl rfl rfl ?_
      | refine WL_call 0 rfl hr3 rfl rfl rfl ?_
      | refine WL_call 0 rfl hc2 rfl rfl rfl ?_
      | refine WL_call 0 rfl hkb rfl rfl rfl ?_
      | refine WL_call 0 rfl hkc rfl rfl rfl ?_
      | refine WD_cons (.inl ⟨rfl, m_callF 0 rfl rfl rfl t6 rfl rfl rfl⟩) ?_
      | refine WD_cons (.inl ⟨rfl, m_callF 0 rfl rfl rfl t7 rfl rfl rfl⟩) ?_
      | refine WL_call 0 rfl hc3 rfl rfl rfl ?_
      | refine WL_cmp rfl rfl rfl rfl (fun _ => ?_) (fun _ => ?_)
      | refine AC_cond rfl (fun _ => ?_) (fun _ => ?_))
    rfl
  rw [k3] at hc3
  have hr4 := root0_spec (.mk 13 0 [a, b, .mk 12 0 [a, c]]) e4 true 0
  rw [root0_jay a b c k3] at hr4
  have hkj := kterm_same (.mk 6 0 [b, c]) (by simp only [Tm.size, sizes]; omega)
  refine FC_intro hty Tryz.func3 rfl rfl rfl fun w0 => ?_
  repeat' (first
    | exact absurd rfl ‹_›
    | refine AC_drawn [[], [], [], [], [2, 3], [1, 2, 3, 4], [], [1, 2, 3, 4, 5, 6], [0, 1, 2, 3, 4, 5, 6, 7], [], [0, 1, 2, 3, 4, 5, 6, 7, 8, 9]] rfl rfl ?_
    | (refine AC_region (id := 5) ?_; refine WL_less (less_sub (l := [(3, _), (4, _), (5, _), (7, _), (8, _)]) (bl := [(3, _), (4, _), (5, _), (8, _)]) ⟨⟨_, rfl, .inl ⟨.refl _, rfl⟩⟩, ⟨_, rfl, .inl ⟨.refl _, rfl⟩⟩, ⟨_, rfl, .inl ⟨.refl _, rfl⟩⟩, ⟨_, rfl, .inl ⟨.refl _, rfl⟩⟩, ⟨_, rfl, .inl ⟨.refl _, rfl⟩⟩, trivial⟩ ⟨⟨⟨_, rfl, .refl _⟩, rfl⟩, ⟨⟨_, rfl, .refl _⟩, rfl⟩, ⟨⟨_, rfl, .refl _⟩, rfl⟩, ⟨⟨_, rfl, .refl _⟩, rfl⟩, trivial⟩) ?_)
    | (refine AC_region (id := 9) ?_; refine WL_less (less_sub (l := [(3, _), (4, _), (5, _), (7, _), (8, _), (9, _), (10, _), (11, _), (12, _)]) (bl := [(3, _), (4, _), (5, _), (8, _), (9, _), (11, _)]) ⟨⟨_, rfl, .inl ⟨.refl _, rfl⟩⟩, ⟨_, rfl, .inl ⟨.refl _, rfl⟩⟩, ⟨_, rfl, .inl ⟨.refl _, rfl⟩⟩, ⟨_, rfl, .inl ⟨.refl _, rfl⟩⟩, ⟨_, rfl, .inl ⟨.refl _, rfl⟩⟩, ⟨_, rfl, .inl ⟨.refl _, rfl⟩⟩, ⟨_, rfl, .inl ⟨.refl _, rfl⟩⟩, ⟨_, rfl, .inl ⟨.refl _, rfl⟩⟩, ⟨_, rfl, .inl ⟨.refl _, rfl⟩⟩, trivial⟩ ⟨⟨⟨_, rfl, .refl _⟩, rfl⟩, ⟨⟨_, rfl, .refl _⟩, rfl⟩, ⟨⟨_, rfl, .refl _⟩, rfl⟩, ⟨⟨_, rfl, .refl _⟩, rfl⟩, ⟨⟨_, rfl, .refl _⟩, rfl⟩, ⟨⟨_, rfl, .refl _⟩, rfl⟩, trivial⟩) ?_)
    | (refine AC_region (id := 11) ?_; refine WL_less (less_sub (l := [(3, _), (4, _), (5, _), (7, _)]) (bl := [(3, _), (4, _), (5, _)]) ⟨⟨_, rfl, .inl ⟨.refl _, rfl⟩⟩, ⟨_, rfl, .inl ⟨.refl _, rfl⟩⟩, ⟨_, rfl, .inl ⟨.refl _, rfl⟩⟩, ⟨_, rfl, .inl ⟨.refl _, rfl⟩⟩, trivial⟩ ⟨⟨⟨_, rfl, .refl _⟩, rfl⟩, ⟨⟨_, rfl, .refl _⟩, rfl⟩, ⟨⟨_, rfl, .refl _⟩, rfl⟩, trivial⟩) ?_)
    | (refine AC_region (id := 13) ?_; refine WL_less (less_sub (l := [(3, _), (4, _), (5, _), (7, _), (10, _), (13, _), (14, _)]) (bl := [(3, _), (4, _), (5, _), (13, _), (14, _)]) ⟨⟨_, rfl, .inl ⟨.refl _, rfl⟩⟩, ⟨_, rfl, .inl ⟨.refl _, rfl⟩⟩, ⟨_, rfl, .inl ⟨.refl _, rfl⟩⟩, ⟨_, rfl, .inl ⟨.refl _, rfl⟩⟩, ⟨_, rfl, .inl ⟨.refl _, rfl⟩⟩, ⟨_, rfl, .inl ⟨.refl _, rfl⟩⟩, ⟨_, rfl, .inl ⟨.refl _, rfl⟩⟩, trivial⟩ ⟨⟨⟨_, rfl, .refl _⟩, rfl⟩, ⟨⟨_, rfl, .refl _⟩, rfl⟩, ⟨⟨_, rfl, .refl _⟩, rfl⟩, ⟨⟨_, rfl, .refl _⟩, rfl⟩, ⟨⟨_, rfl, .refl _⟩, rfl⟩, trivial⟩) ?_)
    | (refine AC_region (id := 16) ?_; refine WL_less (less_sub (l := [(3, _), (4, _), (5, _), (7, _), (10, _), (12, _), (14, _), (15, _)]) (bl := [(3, _), (4, _), (5, _), (14, _), (15, _)]) ⟨⟨_, rfl, .inl ⟨.refl _, rfl⟩⟩, ⟨_, rfl, .inl ⟨.refl _, rfl⟩⟩, ⟨_, rfl, .inl ⟨.refl _, rfl⟩⟩, ⟨_, rfl, .inl ⟨.refl _, rfl⟩⟩, ⟨_, rfl, .inl ⟨.refl _, rfl⟩⟩, ⟨_, rfl, .inl ⟨.refl _, rfl⟩⟩, ⟨_, rfl, .inl ⟨.refl _, rfl⟩⟩, ⟨_, rfl, .inl ⟨.refl _, rfl⟩⟩, trivial⟩ ⟨⟨⟨_, rfl, .refl _⟩, rfl⟩, ⟨⟨_, rfl, .refl _⟩, rfl⟩, ⟨⟨_, rfl, .refl _⟩, rfl⟩, ⟨⟨_, rfl, .refl _⟩, rfl⟩, ⟨⟨_, rfl, .refl _⟩, rfl⟩, trivial⟩) ?_)
    | (refine AC_region (id := 19) ?_; refine WL_less (less_sub (l := [(3, _), (4, _), (5, _), (7, _), (16, _)]) (bl := [(3, _), (4, _), (5, _), (16, _)]) ⟨⟨_, rfl, .inl ⟨.refl _, rfl⟩⟩, ⟨_, rfl, .inl ⟨.refl _, rfl⟩⟩, ⟨_, rfl, .inl ⟨.refl _, rfl⟩⟩, ⟨_, rfl, .inl ⟨.refl _, rfl⟩⟩, ⟨_, rfl, .inl ⟨.refl _, rfl⟩⟩, trivial⟩ ⟨⟨⟨_, rfl, .refl _⟩, rfl⟩, ⟨⟨_, rfl, .refl _⟩, rfl⟩, ⟨⟨_, rfl, .refl _⟩, rfl⟩, ⟨⟨_, rfl, .refl _⟩, rfl⟩, trivial⟩) ?_)
    | (refine AC_reg (id := 18) ?_; refine AC_less (less_sub (l := [(3, _), (4, _), (5, _), (7, _)]) (bl := [(3, _), (4, _), (5, _)]) ⟨⟨_, rfl, .inl ⟨.refl _, rfl⟩⟩, ⟨_, rfl, .inl ⟨.refl _, rfl⟩⟩, ⟨_, rfl, .inl ⟨.refl _, rfl⟩⟩, ⟨_, rfl, .inl ⟨.refl _, rfl⟩⟩, trivial⟩ ⟨⟨⟨_, rfl, .refl _⟩, rfl⟩, ⟨⟨_, rfl, .refl _⟩, rfl⟩, ⟨⟨_, rfl, .refl _⟩, rfl⟩, trivial⟩) ?_; refine AC_drawn [[], [], [], [], [], [], [4, 5], [3, 4, 5, 6], [1, 2, 3, 4, 5, 6, 7], [0, 1, 2, 3, 4, 5, 6, 7, 8], [], [0, 1, 2, 3, 4, 5, 6, 7, 8, 9, 10]] rfl rfl ?_)
    | (refine AC_reg (id := 22) ?_; refine AC_less (less_sub (l := [(4, _), (5, _), (7, _), (10, _), (17, _)]) (bl := [(4, _), (5, _), (17, _)]) ⟨⟨_, rfl, .inl ⟨.refl _, rfl⟩⟩, ⟨_, rfl, .inl ⟨.refl _, rfl⟩⟩, ⟨_, rfl, .inl ⟨.refl _, rfl⟩⟩, ⟨_, rfl, .inl ⟨.refl _, rfl⟩⟩, ⟨_, rfl, .inl ⟨.refl _, rfl⟩⟩, trivial⟩ ⟨⟨⟨_, rfl, .refl _⟩, rfl⟩, ⟨⟨_, rfl, .refl _⟩, rfl⟩, ⟨⟨_, rfl, .refl _⟩, rfl⟩, trivial⟩) ?_; refine AC_drawn [[], [0], [0, 1], [0, 1, 2], [0, 1, 2], [0, 1, 2], [0, 1, 2], [0, 1, 2, 5, 6], [0, 1, 2, 4, 5, 6, 7], [0, 1, 2, 3, 4, 5, 6, 7, 8], [0, 1, 2, 3, 4, 5, 6, 7, 8, 9], [0, 1, 2, 3, 4, 5, 6, 7, 8, 9, 10], [0, 1, 2, 3, 4, 5, 6, 7, 8, 9, 10, 11], [0, 1, 2, 3, 4, 5, 6, 7, 8, 9, 10, 11, 12], [0, 1, 2, 3, 4, 5, 6, 7, 8, 9, 10, 11, 12, 13]] rfl rfl ?_)
    | refine WD_cons (.inl ⟨rfl, stepE_ok hty rfl rfl⟩) ?_
    | refine WD_cons (.inl ⟨rfl, m_idxN hty rfl rfl rfl (by assumption) rfl⟩) ?_
    | refine WD_ung rfl rfl ?_
    | refine WD_offT rfl rfl rfl ?_
    | refine WD_offF rfl rfl rfl ?_
    | refine WD_offU rfl rfl rfl ?_
    | refine WD_nil ⟨by kernel_rfl, ?_⟩
    | refine WL_p hty rfl rfl ?_
    | refine WL_nil ?_
    | refine AC_seq ?_
    | refine AC_region ?_
    | refine AC_block ?_
    | refine AC_skip ?_
    | refine AC_condT rfl ?_
    | refine AC_condF rfl ?_
    | refine AC_exit ?_
    | refine AC_ret ?_
    | refine WL_ung rfl rfl ?_
    | refine WL_offT rfl rfl rfl ?_
    | refine WL_offF rfl rfl rfl ?_
    | refine WL_offU rfl rfl rfl ?_
    | refine WL_m rfl (m_idxN hty rfl rfl rfl (by assumption) rfl) ?_
    | refine ends_bool rfl ?_
    | refine WL_call 0 rfl hv rfl rfl rfl ?_
    | refine WD_cons (.inl ⟨rfl, m_callF 0 rfl rfl rfl t1 rfl rfl rfl⟩) ?_
    | refine WD_cons (.inl ⟨rfl, m_callF 0 rfl rfl rfl t2 rfl rfl rfl⟩) ?_
    | refine WL_call 0 rfl hc1 rfl rfl rfl ?_
    | refine WL_call 0 rfl hr1 rfl rfl rfl ?_
    | refine WL_call 0 rfl hi1 rfl rfl rfl ?_
    | refine WL_call 0 rfl hk1 rfl rfl rfl ?_
    | refine WL_call 0 rfl his rfl rfl rfl ?_
    | refine WL_m rfl (m_callF 0 rfl rfl rfl t3 rfl rfl rfl) ?_
    | refine WL_m rfl (m_callF 0 rfl rfl rfl t4 rfl rfl rfl) ?_
    | refine WL_m rfl (m_callF 0 rfl rfl rfl t5 rfl rfl rfl) ?_
    | refine WL_call 0 rfl hr2 rfl rfl rfl ?_
    | refine WL_call 0 rfl hr3 rfl rfl rfl ?_
    | refine WL_call 0 rfl hc2 rfl rfl rfl ?_
    | refine WL_call 0 rfl hkb rfl rfl rfl ?_
    | refine WL_call 0 rfl hkc rfl rfl rfl ?_
    | refine WD_cons (.inl ⟨rfl, m_callF 0 rfl rfl rfl t6 rfl rfl rfl⟩) ?_
    | refine WD_cons (.inl ⟨rfl, m_callF 0 rfl rfl rfl t7 rfl rfl rfl⟩) ?_
    | refine WL_call 0 rfl hc3 rfl rfl rfl ?_
    | refine WL_call 0 rfl hr4 rfl rfl rfl ?_
    | refine WD_cons (.inl ⟨rfl, m_callF 0 rfl rfl rfl t8 rfl rfl rfl⟩) ?_
    | refine WD_call 0 rfl hkj rfl rfl rfl ?_
    | refine WD_call 0 rfl wakes_spec rfl rfl rfl ?_
    | refine WL_cmp rfl rfl rfl rfl (fun _ => ?_) (fun _ => ?_)
    | refine AC_cond rfl (fun _ => ?_) (fun _ => ?_)
    | refine WD_cmp rfl rfl rfl rfl (fun _ => ?_) (fun _ => ?_))
  rfl

end Go.Proofs.YtpnjflimilamdaaGreat
