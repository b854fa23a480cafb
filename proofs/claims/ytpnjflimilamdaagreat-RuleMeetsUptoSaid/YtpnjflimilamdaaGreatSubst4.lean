/-
  Variables replaced: the function that replaces, the term that comes of it.
-/
import Derived.Test.YtpnjflimilamdaaGreatSubst3
namespace Go.Proofs.YtpnjflimilamdaaGreat
set_option linter.unusedSimpArgs false
set_option linter.unusedVariables false
open Go.Aw Go.RowKit
attribute [local irreducible] WL AC WD MStep OkOp

def substF (j : Jb) (m : Nat) (n b : Int) : Tm := if 0 ≤ whichJ j.args j.under n b then movedT (j.args.getD (whichJ j.args j.under n b).toNat zG).t (j.under + b) else if j.under + b ≤ n then .mk 1 (IntKind.i64.wrap (n - (m : Nat))) [] else .mk 1 n []
def instT (t : Tm) (args : List Tm) (under : Int) : Tm × Int :=
  if openE t args under ≠ 0 then (zT, openE t args under) else
  if (jobT t args under).scope = true then (zT, 6) else if 6000 < (jobT t args under).size then (zT, 4) else if 200 < (jobT t args under).depth then (zT, 5) else
  (mapT (substF (jobT t args under) args.length) 0 t, 0)

set_option maxHeartbeats 4000000 in
theorem inst1_spec (j : Jb) (l : List Tm) (n b : Int) (hl : j.args.length ≤ 1048576) (hn : 0 ≤ n ∧ n ≤ 65535) (hu : 0 ≤ j.under ∧ j.under ≤ 65535) (hb : 0 ≤ b ∧ b ≤ 4194304) (ha : ∀ (i : Nat) (g : Gr), j.args[i]? = some g → g.t.size ≤ 1048576 ∧ formedT g.t = true) :
    FC Tryz.prog 21 ([.int .i64 n, .int .i64 b] ++ [.eptr [.eptr (cJ j) 0] 0, .eptr [.int .i64 j.under] 0, .eptr [sT l] 0]) (aT (substF j l.length n b)) := by
  have hws := which_spec j n b hl hn hu hb
  have w1 : IntKind.i64.wrap (j.under + b) = j.under + b := wrap_ok (by omega) (by omega)
  unfold substF
  by_cases hw : 0 ≤ whichJ j.args j.under n b
  · obtain ⟨a, hga, _⟩ := get_of_lt (whichJ_lt hw)
    have ra := rsG_get hga
    rw [if_pos hw, List.getD_eq_getElem?_getD, hga, Option.getD_some]
    have hmv := moved_spec a.t (j.under + b) (ha _ _ hga).1 (ha _ _ hga).2
    rw [← w1] at hmv ⊢
    refine FC_intro hty Tryz.func21 rfl rfl rfl fun w0 => ?_
    repeat' (first
      | exact absurd hw ‹_›
      | refine WL_call 0 rfl hws rfl rfl rfl ?_
      | refine AC_drawn [[], [0], [0, 1], [0, 1, 2], [], [0, 1, 2, 3, 4], [0, 1, 2, 3, 4, 5], [0, 1, 2, 3, 4, 5, 6], [], [], [8, 9], [0, 1, 2, 3, 4, 5, 6, 7, 8, 9, 10], [0, 1, 2, 3, 4, 5, 6, 7, 8, 9, 10, 11]] rfl rfl ?_
      | refine WD_cons (.inl ⟨rfl, m_idxL hty rfl rfl rfl hw ra rfl⟩) ?_
      | refine WD_cons (.inl ⟨rfl, m_call 0 rfl hmv rfl rfl rfl⟩) ?_
      | refine WD_cons (.inl ⟨rfl, stepE_ok hty rfl rfl⟩) ?_
      | refine WD_cons (.inl ⟨rfl, m_idxN hty rfl rfl rfl (by assumption) rfl⟩) ?_
      | refine WD_ung rfl rfl ?_
      | refine WD_offT rfl rfl rfl ?_
      | refine WD_offF rfl rfl rfl ?_
      | refine WD_offU rfl rfl rfl ?_
      | refine WD_nil ⟨by kernel_rfl, ?_⟩
      | refine WL_p hty rfl rfl ?_
      | refine WL_nil ?_
      | refine AC_seq ?_
      | refine AC_region ?_
      | refine AC_block ?_
      | refine AC_skip ?_
      | refine AC_condT rfl ?_
      | refine AC_condF rfl ?_
      | refine AC_exit ?_
      | refine AC_ret ?_
      | refine WL_ung rfl rfl ?_
      | refine WL_offT rfl rfl rfl ?_
      | refine WL_offF rfl rfl rfl ?_
      | refine WL_offU rfl rfl rfl ?_
      | refine WL_m rfl (m_idxN hty rfl rfl rfl (by assumption) rfl) ?_
      | refine ends_bool rfl ?_
      | refine WL_cmp rfl rfl rfl rfl (fun _ => ?_) (fun _ => ?_)
      | refine AC_cond rfl (fun _ => ?_) (fun _ => ?_))
    exact ends_wk rfl rfl (.refl _)
  · rw [if_neg hw]
    refine FC_intro hty Tryz.func21 rfl rfl rfl fun w0 => ?_
    repeat' (first
      | exact absurd (by assumption) hw
      | refine WL_call 0 rfl hws rfl rfl rfl ?_
      | refine WL_call 0 rfl (tv_spec _) rfl rfl rfl ?_
      | refine WL_p hty rfl rfl ?_
      | refine WL_nil ?_
      | refine AC_seq ?_
      | refine AC_region ?_
      | refine AC_block ?_
      | refine AC_skip ?_
      | refine AC_condT rfl ?_
      | refine AC_condF rfl ?_
      | refine AC_exit ?_
      | refine AC_ret ?_
      | refine WL_ung rfl rfl ?_
      | refine WL_offT rfl rfl rfl ?_
      | refine WL_offF rfl rfl rfl ?_
      | refine WL_offU rfl rfl rfl ?_
      | refine WL_m rfl (m_idxN hty rfl rfl rfl (by assumption) rfl) ?_
      | refine ends_bool rfl ?_
      | refine WL_cmp rfl rfl rfl rfl (fun _ => ?_) (fun _ => ?_)
      | refine AC_cond rfl (fun _ => ?_) (fun _ => ?_))
    all_goals (rename_i hq; rw [w1] at hq)
    · rw [if_pos hq]
      refine ends_wk rfl rfl (.of_eq ?_)
      rw [rsT_length]
    · rw [if_neg hq]
      exact ends_wk rfl rfl (.refl _)

set_option maxHeartbeats 4000000 in
theorem inst_spec (t : Tm) (args : List Tm) (under : Int) (hs : t.size ≤ 1048576) (ha : sizes args ≤ 1048576) : FC Tryz.prog 8 [aT t, sT args, .int .i64 under] (.tup [aT (instT t args under).1, .int .i64 (instT t args under).2]) := by
  have hop := open_spec t args under hs ha
  have hlen := len_le_sizes args
  by_cases he : openE t args under = 0
  · rw [openAV, if_pos he] at hop
    have hct : checkT t = 0 := by
      unfold openE at he
      split at he
      · rename_i h; exact absurd he h
      · rename_i h; omega
    obtain ⟨hc1, hc2, hc3⟩ := checkT_ok hct
    have hoe : (match args.find? (fun a => decide (checkT a ≠ 0)) with
      | some a => checkT a
      | none => if under < 0 ∨ 65535 < under then 1 else 0) = 0 := by unfold openE at he; rw [if_neg (by omega)] at he; exact he
    have hfn : args.find? (fun a => decide (checkT a ≠ 0)) = none := by
      cases q : args.find? (fun a => decide (checkT a ≠ 0)) with
      | none => rfl
      | some a =>
        rw [q] at hoe
        have := List.find?_some q
        simp at this
        exact absurd hoe this
    have hund : 0 ≤ under ∧ under ≤ 65535 := by
      rw [hfn] at hoe
      simp only at hoe
      split at hoe
      · omega
      · omega
    obtain ⟨k1, k2⟩ := lookT_keep t ⟨args.map gOf, under, false, 0, 0⟩ 0 0
    have hja : (jobT t args under).args = args.map gOf := k1
    have hju : (jobT t args under).under = under := k2
    have h1 : ∀ n b, 0 ≤ n → n ≤ 65535 → 0 ≤ b → b ≤ 4194304 → FC Tryz.prog 21 ([.int .i64 n, .int .i64 b] ++ [.eptr [.eptr (cJ (jobT t args under)) 0] 0, .eptr [.int .i64 under] 0, .eptr [sT args] 0]) (aT (substF (jobT t args under) args.length n b)) := by
      intro n b g1 g2 g3 g4
      have := inst1_spec (jobT t args under) args n b (by rw [hja, List.length_map]; omega) ⟨g1, g2⟩ (by rw [hju]; exact hund) ⟨g3, g4⟩ (fun i g hg => by
        rw [hja, List.getElem?_map] at hg
        obtain ⟨a, hga, rfl⟩ := Option.map_eq_some_iff.1 hg
        have hm := List.mem_of_getElem? hga
        have := List.find?_eq_none.1 hfn a hm
        simp at this
        exact ⟨by have := size_le_sizes hm; show a.size ≤ _; omega, (checkT_ok this).2.2⟩)
      rw [hju] at this
      exact this
    have hm := map_spec 21 [.eptr [.eptr (cJ (jobT t args under)) 0] 0, .eptr [.int .i64 under] 0, .eptr [sT args] 0] rfl _ 4194304 (by omega) h1 t 0 hs hc3 (by omega) (by omega)
    have hi : instT t args under = if (jobT t args under).scope = true then (zT, 6) else if 6000 < (jobT t args under).size then (zT, 4) else if 200 < (jobT t args under).depth then (zT, 5) else (mapT (substF (jobT t args under) args.length) 0 t, 0) := by
      unfold instT; rw [if_neg (by omega)]
    refine FC_intro hty Tryz.func8 rfl rfl rfl fun w0 => ?_
    repeat' (first
      | exact absurd rfl ‹_›
      | refine WL_call 0 rfl hop rfl rfl rfl ?_
      | (refine WL_less (less_freezeBox 8 rfl rfl) ?_; refine WL_less (less_freezeBox 5 rfl rfl) ?_; refine WL_less (less_freezeBox 4 rfl rfl) ?_; refine WL_m rfl (m_makeFunc rfl rfl rfl) ?_)
      | refine WL_call 0 rfl hm rfl rfl rfl ?_
      | refine WL_p hty rfl rfl ?_
      | refine WL_nil ?_
      | refine AC_seq ?_
      | refine AC_region ?_
      | refine AC_block ?_
      | refine AC_skip ?_
      | refine AC_condT rfl ?_
      | refine AC_condF rfl ?_
      | refine AC_exit ?_
      | refine AC_ret ?_
      | refine WL_ung rfl rfl ?_
      | refine WL_offT rfl rfl rfl ?_
      | refine WL_offF rfl rfl rfl ?_
      | refine WL_offU rfl rfl rfl ?_
      | refine WL_m rfl (m_idxN hty rfl rfl rfl (by assumption) rfl) ?_
      | refine ends_bool rfl ?_
      | refine WL_cmp rfl rfl rfl rfl (fun _ => ?_) (fun _ => ?_)
      | refine AC_cond rfl (fun _ => ?_) (fun _ => ?_))
    · rw [hi, if_pos (by assumption)]
      refine ends_wk rfl rfl (.tup (.cons (.agg ?_) (.cons (.refl _) .nil)))
      repeat' (first | exact Wks.nil | refine Wks.cons (Wk.refl _) ?_ | refine Wks.cons (Wk.full _ _ _) ?_ | refine Wks.cons (Wk.nilF _ _ _) ?_)
    · rw [hi, if_neg (by simp [*]), if_pos (by assumption)]
      refine ends_wk rfl rfl (.tup (.cons (.agg ?_) (.cons (.refl _) .nil)))
      repeat' (first | exact Wks.nil | refine Wks.cons (Wk.refl _) ?_ | refine Wks.cons (Wk.full _ _ _) ?_ | refine Wks.cons (Wk.nilF _ _ _) ?_)
    · rw [hi, if_neg (by simp [*]), if_neg (by assumption), if_pos (by assumption)]
      refine ends_wk rfl rfl (.tup (.cons (.agg ?_) (.cons (.refl _) .nil)))
      repeat' (first | exact Wks.nil | refine Wks.cons (Wk.refl _) ?_ | refine Wks.cons (Wk.full _ _ _) ?_ | refine Wks.cons (Wk.nilF _ _ _) ?_)
    · rw [hi, if_neg (by simp [*]), if_neg (by assumption), if_neg (by assumption)]
      exact ends_wk rfl rfl (.refl _)
  · rw [openAV, if_neg he] at hop
    have hi : instT t args under = (zT, openE t args under) := by unfold instT; rw [if_pos he]
    refine FC_intro hty Tryz.func8 rfl rfl rfl fun w0 => ?_
    repeat' (first
      | exact absurd he ‹_›
      | refine WL_call 0 rfl hop rfl rfl rfl ?_
      | refine WL_p hty rfl rfl ?_
      | refine WL_nil ?_
      | refine AC_seq ?_
      | refine AC_region ?_
      | refine AC_block ?_
      | refine AC_skip ?_
      | refine AC_condT rfl ?_
      | refine AC_condF rfl ?_
      | refine AC_exit ?_
      | refine AC_ret ?_
      | refine WL_ung rfl rfl ?_
      | refine WL_offT rfl rfl rfl ?_
      | refine WL_offF rfl rfl rfl ?_
      | refine WL_offU rfl rfl rfl ?_
      | refine WL_m rfl (m_idxN hty rfl rfl rfl (by assumption) rfl) ?_
      | refine ends_bool rfl ?_
      | refine WL_cmp rfl rfl rfl rfl (fun _ => ?_) (fun _ => ?_)
      | refine AC_cond rfl (fun _ => ?_) (fun _ => ?_))
    rw [hi]
    refine ends_wk rfl rfl (.tup (.cons (.agg ?_) (.cons (.refl _) .nil)))
    repeat' (first | exact Wks.nil | refine Wks.cons (Wk.refl _) ?_ | refine Wks.cons (Wk.full _ _ _) ?_ | refine Wks.cons (Wk.nilF _ _ _) ?_)

end Go.Proofs.YtpnjflimilamdaaGreat
