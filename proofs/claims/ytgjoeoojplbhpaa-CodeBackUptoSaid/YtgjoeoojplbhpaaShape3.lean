/-
  The document's answer: a block of the right shape has constructors of the right shape.
-/
import Derived.Test.YtgjoeoojplbhpaaShape2
namespace Go.Proofs.Ytgjoeoojplbhpaa
set_option linter.unusedSimpArgs false
set_option linter.unusedVariables false
open Go.Aw Go.RowKit
attribute [local irreducible] WL AC WD MStep OkOp

def ShapeR (b : Bl) (r : AV) : Prop := ∃ x, r = .bool x ∧ (x = true → ∀ c ∈ b.cons, conB b c = true)

set_option maxRecDepth 4000 in
set_option maxHeartbeats 8000000 in
theorem shape_spec (b : Bl) (hb : b.size ≤ 1048576) : RC Try.prog 22 [aB b] (ShapeR b) := by
  have hsl := len_le_sizesS b.sorts
  have hcl := len_le_sizesC b.cons
  have hb' := hb
  unfold Bl.size at hb'
  refine RC_intro hty Try.func22 rfl rfl rfl fun w0 => ?_
  repeat' (first
    | refine endsR_bool rfl (fun h => Bool.noConfusion h)
    | refine WL_callB rfl (in7_spec _ _ _) rfl (fun _ => ?_) (fun _ => ?_)
    | refine WL_p hty rfl rfl ?_
    | refine WL_nil ?_
    | refine AC_seq ?_
    | refine AC_region ?_
    | refine AC_block ?_
    | refine AC_skip ?_
    | refine AC_condT rfl ?_
    | refine AC_condF rfl ?_
    | refine AC_exit ?_
    | refine AC_ret ?_
    | refine WL_ung rfl rfl ?_
    | refine WL_offT rfl rfl rfl ?_
    | refine WL_offF rfl rfl rfl ?_
    | refine WL_offU rfl rfl rfl ?_
    | refine WL_m rfl (m_idxN hty rfl rfl rfl (by assumption) rfl) ?_
    | refine ends_bool rfl ?_
    | refine WL_cmp rfl rfl rfl rfl (fun _ => ?_) (fun _ => ?_)
    | refine AC_cond rfl (fun _ => ?_) (fun _ => ?_))
  refine AC_for b.sorts.length (fun _ => True) (fun j => ⟨envOf [(1, .ptr 1 0), (3, .int .i64 (j : Nat))],
    bkOf [(1, .box [.lst 6 (rsS b.sorts) false, .lst 6 (rsC b.cons) false, .int .i64 b.elim])]⟩) (less_sub ⟨⟨_, rfl, .inl ⟨.refl _, rfl⟩⟩, ⟨_, rfl, .inl ⟨.refl _, rfl⟩⟩, trivial⟩ ⟨⟨⟨_, rfl, .refl _⟩, rfl⟩, trivial⟩) trivial ?_
  intro j hj _
  repeat' (first
    | refine WL_p hty rfl rfl ?_
    | refine WL_nil ?_
    | refine AC_seq ?_
    | refine AC_region ?_
    | refine AC_block ?_
    | refine AC_skip ?_
    | refine AC_condT rfl ?_
    | refine AC_condF rfl ?_
    | refine AC_exit ?_
    | refine AC_ret ?_
    | refine WL_ung rfl rfl ?_
    | refine WL_offT rfl rfl rfl ?_
    | refine WL_offF rfl rfl rfl ?_
    | refine WL_offU rfl rfl rfl ?_
    | refine WL_m rfl (m_idxN hty rfl rfl rfl (by assumption) rfl) ?_
    | refine ends_bool rfl ?_)
  refine WL_cmp rfl rfl rfl rfl (fun hc => ?_) (fun hc => ?_)
  · have hlt : j < b.sorts.length := by rw [rsS_length] at hc; omega
    obtain ⟨s, hs, hsm⟩ := get_of_lt hlt
    have rs := rsS_get hs
    have hss := size_le_sizesS hsm
    unfold Sr.size at hss
    have hil := len_le_sizesA s.idx
    have hop := open_spec s.decT ((rsA s.idx).length : Nat) (by omega)
    repeat' (first
      | refine endsR_bool rfl (fun h => Bool.noConfusion h)
      | refine WL_callB rfl (in7_spec _ _ _) rfl (fun _ => ?_) (fun _ => ?_)
      | refine WL_p hty rfl rfl ?_
      | refine WL_nil ?_
      | refine AC_seq ?_
      | refine AC_region ?_
      | refine AC_block ?_
      | refine AC_skip ?_
      | refine AC_condT rfl ?_
      | refine AC_condF rfl ?_
      | refine AC_exit ?_
      | refine AC_ret ?_
      | refine WL_ung rfl rfl ?_
      | refine WL_offT rfl rfl rfl ?_
      | refine WL_offF rfl rfl rfl ?_
      | refine WL_offU rfl rfl rfl ?_
      | refine WL_m rfl (m_idxN hty rfl rfl rfl (by assumption) rfl) ?_
      | refine ends_bool rfl ?_
      | refine WL_cmp rfl rfl rfl rfl (fun _ => ?_) (fun _ => ?_)
      | refine AC_cond rfl (fun _ => ?_) (fun _ => ?_))
    refine AC_for s.idx.length (fun _ => True) (fun i => ⟨envOf [(1, .ptr 1 0), (3, .int .i64 (j : Nat)), (4, .ptr 4 0), (5, .bool ((s.idx.take i).any (·.rc))), (6, .int .i64 (i : Nat))],
      bkOf [(1, .box [.lst 6 (rsS b.sorts) false, .lst 6 (rsC b.cons) false, .int .i64 b.elim]), (4, .box (cS s))]⟩) (less_sub ⟨⟨_, rfl, .inl ⟨.refl _, rfl⟩⟩, ⟨_, rfl, .inl ⟨.refl _, rfl⟩⟩, ⟨_, rfl, .inl ⟨.refl _, rfl⟩⟩, ⟨_, rfl, .inl ⟨.refl _, rfl⟩⟩, ⟨_, rfl, .inl ⟨.refl _, rfl⟩⟩, trivial⟩ ⟨⟨⟨_, rfl, .refl _⟩, rfl⟩, ⟨⟨_, rfl, .refl _⟩, rfl⟩, trivial⟩) trivial ?_
    intro i hi _
    repeat' (first
      | refine WL_p hty rfl rfl ?_
      | refine WL_nil ?_
      | refine AC_seq ?_
      | refine AC_region ?_
      | refine AC_block ?_
      | refine AC_skip ?_
      | refine AC_condT rfl ?_
      | refine AC_condF rfl ?_
      | refine AC_exit ?_
      | refine AC_ret ?_
      | refine WL_ung rfl rfl ?_
      | refine WL_offT rfl rfl rfl ?_
      | refine WL_offF rfl rfl rfl ?_
      | refine WL_offU rfl rfl rfl ?_
      | refine WL_m rfl (m_idxN hty rfl rfl rfl (by assumption) rfl) ?_
      | refine ends_bool rfl ?_)
    refine WL_cmp rfl rfl rfl rfl (fun hd => ?_) (fun hd => ?_)
    · have hlt2 : i < s.idx.length := by rw [rsA_length] at hd; omega
      obtain ⟨a, ha, ham⟩ := get_of_lt hlt2
      have ra := rsA_get ha
      have has := size_le_sizesA ham
      have hfa := arg_spec b a (i : Nat) hb (by omega) (by omega) (by omega)
      have hts : (s.idx.take (i + 1)).any (·.rc) = ((s.idx.take i).any (·.rc) || a.rc) := any_take_succ ha
      rw [hts]
      generalize (s.idx.take i).any (·.rc) = rr
      obtain ⟨rc, tt, dd, so, ix⟩ := a
      have hfin : (AV.int .i64 (IntKind.i64.wrap ((i : Nat) + 1))) = .int .i64 ((i + 1 : Nat) : Int) := congrArg (AV.int .i64) ((wrap_ok (by omega) (by omega)).trans (by omega))
      cases rc
      all_goals
        repeat' (first
          | refine endsR_bool rfl (fun h => Bool.noConfusion h)
          | refine AC_drawn [[], [], [1], [], [1, 2, 3], [1, 2, 3, 4], [], [0, 1, 2, 3, 4, 5, 6], [0, 1, 2, 3, 4, 5, 6, 7], [0, 1, 2, 3, 4, 5, 6, 7, 8], [0, 1, 2, 3, 4, 5, 6, 7, 8, 9], [0, 1, 2, 3, 4, 5, 6, 7, 8, 9, 10], [0, 1, 2, 3, 4, 5, 6, 7, 8, 9], [0, 1, 2, 3, 4, 5, 6, 7, 8, 9, 10, 11, 12], [0, 1, 2, 3, 4, 5, 6, 7, 8, 9, 10, 11, 12, 13], [0, 1, 2, 3, 4, 5, 6, 7, 8, 9, 10, 11, 12, 13, 14], [0, 1, 2, 3, 4, 5, 6, 7, 8, 9, 10, 11, 12, 13, 14, 15], [0, 1, 2, 3, 4, 5, 6, 7, 8, 9, 10, 11, 12, 13, 14, 15, 16], [0, 1, 2, 3, 4, 5, 6, 7, 8, 9, 10, 11, 12, 13, 14, 15, 16, 17], [0, 1, 2, 3, 4, 5, 6, 7, 8, 9, 10, 11, 12, 13, 14, 15, 16], [0, 1, 2, 3, 4, 5, 6, 7, 8, 9, 10, 11, 12, 13, 14, 15, 16, 17, 18, 19], [0, 1, 2, 3, 4, 5, 6, 7, 8, 9, 10, 11, 12, 13, 14, 15, 16, 17, 18, 19, 20], [0, 1, 2, 3, 4, 5, 6, 7, 8, 9, 10, 11, 12, 13, 14, 15, 16, 17, 18, 19, 20, 21], [0, 1, 2, 3, 4, 5, 6, 7, 8, 9, 10, 11, 12, 13, 14, 15, 16, 17, 18, 19, 20, 21, 22], [0, 1, 2, 3, 4, 5, 6, 7, 8, 9, 10, 11, 12, 13, 14, 15, 16, 17, 18, 19, 20, 21, 22, 23], [0, 1, 2, 3, 4, 5, 6, 7, 8, 9, 10, 11, 12, 13, 14, 15, 16, 17, 18, 19, 20, 21, 22, 23, 24], [0, 1, 2, 3, 4, 5, 6, 7, 8, 9, 10, 11, 12, 13, 14, 15, 16, 17, 18, 19, 20, 21, 22, 23, 24, 25], [0, 1, 2, 3, 4, 5, 6, 7, 8, 9, 10, 11, 12, 13, 14, 15, 16, 17, 18, 19, 20, 21, 22, 23, 24, 25, 26], [0, 1, 2, 3, 4, 5, 6, 7, 8, 9, 10, 11, 12, 13, 14, 15, 16, 17, 18, 19, 20, 21, 22, 23, 24, 25], [0, 1, 2, 3, 4, 5, 6, 7, 8, 9, 10, 11, 12, 13, 14, 15, 16, 17, 18, 19, 20, 21, 22, 23, 24, 25, 26, 27, 28], [0, 1, 2, 3, 4, 5, 6, 7, 8, 9, 10, 11, 12, 13, 14, 15, 16, 17, 18, 19, 20, 21, 22, 23, 24, 25, 26, 27, 28, 29], [0, 1, 2, 3, 4, 5, 6, 7, 8, 9, 10, 11, 12, 13, 14, 15, 16, 17, 18, 19, 20, 21, 22, 23, 24, 25, 26, 27, 28, 29, 30], [0, 1, 2, 3, 4, 5, 6, 7, 8, 9, 10, 11, 12, 13, 14, 15, 16, 17, 18, 19, 20, 21, 22, 23, 24, 25], [0, 1, 2, 3, 4, 5, 6, 7, 8, 9, 10, 11, 12, 13, 14, 15, 16, 17, 18, 19, 20, 21, 22, 23, 24, 25, 26, 27, 28, 29, 30, 31, 32], [0, 1, 2, 3, 4, 5, 6, 7, 8, 9, 10, 11, 12, 13, 14, 15, 16, 17, 18, 19, 20, 21, 22, 23, 24, 25, 26, 27, 28, 29, 30, 31, 32, 33], [0, 1, 2, 3, 4, 5, 6, 7, 8, 9, 10, 11, 12, 13, 14, 15, 16, 17, 18, 19, 20, 21, 22, 23, 24, 25, 26, 27, 28, 29, 30, 31, 32, 33, 34], [0, 1, 2, 3, 4, 5, 6, 7, 8, 9, 10, 11, 12, 13, 14, 15, 16, 17, 18, 19, 20, 21, 22, 23, 24, 25, 26, 27, 28, 29, 30, 31, 32, 33, 34, 35]] rfl rfl ?_
          | refine WD_callB rfl hfa rfl (fun _ => ?_) (fun _ => ?_)
          | refine WD_cons (.inl ⟨rfl, stepE_ok hty rfl rfl⟩) ?_
          | refine WD_cons (.inl ⟨rfl, m_idxN hty rfl rfl rfl (by assumption) rfl⟩) ?_
          | refine WD_ung rfl rfl ?_
          | refine WD_offT rfl rfl rfl ?_
          | refine WD_offF rfl rfl rfl ?_
          | refine WD_offU rfl rfl rfl ?_
          | refine WD_nil ⟨by kernel_rfl, ?_⟩
          | refine WL_p hty rfl rfl ?_
          | refine WL_nil ?_
          | refine AC_seq ?_
          | refine AC_region ?_
          | refine AC_block ?_
          | refine AC_skip ?_
          | refine AC_condT rfl ?_
          | refine AC_condF rfl ?_
          | refine AC_exit ?_
          | refine AC_ret ?_
          | refine WL_ung rfl rfl ?_
          | refine WL_offT rfl rfl rfl ?_
          | refine WL_offF rfl rfl rfl ?_
          | refine WL_offU rfl rfl rfl ?_
          | refine WL_m rfl (m_idxN hty rfl rfl rfl (by assumption) rfl) ?_
          | refine ends_bool rfl ?_
          | refine WL_cmp rfl rfl rfl rfl (fun _ => ?_) (fun _ => ?_)
          | refine AC_cond rfl (fun _ => ?_) (fun _ => ?_)
          | refine WD_cmp rfl rfl rfl rfl (fun _ => ?_) (fun _ => ?_))
      all_goals
        cases rr
        all_goals
          repeat' (first
            | refine WL_p hty rfl rfl ?_
            | refine WL_nil ?_
            | refine AC_seq ?_
            | refine AC_region ?_
            | refine AC_block ?_
            | refine AC_skip ?_
            | refine AC_condT rfl ?_
            | refine AC_condF rfl ?_
            | refine AC_exit ?_
            | refine AC_ret ?_
            | refine WL_ung rfl rfl ?_
            | refine WL_offT rfl rfl rfl ?_
            | refine WL_offF rfl rfl rfl ?_
            | refine WL_offU rfl rfl rfl ?_
            | refine WL_m rfl (m_idxN hty rfl rfl rfl (by assumption) rfl) ?_
            | refine ends_bool rfl ?_
            | refine WL_cmp rfl rfl rfl rfl (fun _ => ?_) (fun _ => ?_)
            | refine AC_cond rfl (fun _ => ?_) (fun _ => ?_))
          refine ⟨hlt2, trivial, (less_sub ⟨⟨_, rfl, .inl ⟨.refl _, rfl⟩⟩, ⟨_, rfl, .inl ⟨.refl _, rfl⟩⟩, ⟨_, rfl, .inl ⟨.refl _, rfl⟩⟩, ⟨_, rfl, .inl ⟨.refl _, rfl⟩⟩, ⟨_, rfl, see_eq ?_ rfl⟩, trivial⟩ ⟨⟨⟨_, rfl, .refl _⟩, rfl⟩, ⟨⟨_, rfl, .refl _⟩, rfl⟩, trivial⟩)⟩
          exact hfin
    · have hd : ¬ (i : Int) < ((rsA s.idx).length : Int) := hd
      obtain rfl : i = s.idx.length := by rw [rsA_length] at hd; omega
      generalize (s.idx.take s.idx.length).any (·.rc) = rr
      obtain ⟨sx, sl, sd, st⟩ := s
      have hfin : (AV.int .i64 (IntKind.i64.wrap ((j : Nat) + 1))) = .int .i64 ((j + 1 : Nat) : Int) := congrArg (AV.int .i64) ((wrap_ok (by omega) (by omega)).trans (by omega))
      cases sd <;> cases rr
      all_goals
        repeat' (first
          | refine endsR_bool rfl (fun h => Bool.noConfusion h)
          | refine WL_callB rfl (rnone_spec _) rfl (fun _ => ?_) (fun _ => ?_)
          | refine WL_callB rfl hop rfl (fun _ => ?_) (fun _ => ?_)
          | refine WL_p hty rfl rfl ?_
          | refine WL_nil ?_
          | refine AC_seq ?_
          | refine AC_region ?_
          | refine AC_block ?_
          | refine AC_skip ?_
          | refine AC_condT rfl ?_
          | refine AC_condF rfl ?_
          | refine AC_exit ?_
          | refine AC_ret ?_
          | refine WL_ung rfl rfl ?_
          | refine WL_offT rfl rfl rfl ?_
          | refine WL_offF rfl rfl rfl ?_
          | refine WL_offU rfl rfl rfl ?_
          | refine WL_m rfl (m_idxN hty rfl rfl rfl (by assumption) rfl) ?_
          | refine ends_bool rfl ?_
          | refine WL_cmp rfl rfl rfl rfl (fun _ => ?_) (fun _ => ?_)
          | refine AC_cond rfl (fun _ => ?_) (fun _ => ?_))
      all_goals
        refine ⟨hlt, trivial, (less_sub ⟨⟨_, rfl, .inl ⟨.refl _, rfl⟩⟩, ⟨_, rfl, see_eq ?_ rfl⟩, trivial⟩ ⟨⟨⟨_, rfl, .refl _⟩, rfl⟩, trivial⟩)⟩
        exact hfin
  · obtain rfl : j = b.sorts.length := by rw [rsS_length] at hc; omega
    repeat' (first
      | refine WL_p hty rfl rfl ?_
      | refine WL_nil ?_
      | refine AC_seq ?_
      | refine AC_region ?_
      | refine AC_block ?_
      | refine AC_skip ?_
      | refine AC_condT rfl ?_
      | refine AC_condF rfl ?_
      | refine AC_exit ?_
      | refine AC_ret ?_
      | refine WL_ung rfl rfl ?_
      | refine WL_offT rfl rfl rfl ?_
      | refine WL_offF rfl rfl rfl ?_
      | refine WL_offU rfl rfl rfl ?_
      | refine WL_m rfl (m_idxN hty rfl rfl rfl (by assumption) rfl) ?_
      | refine ends_bool rfl ?_
      | refine WL_cmp rfl rfl rfl rfl (fun _ => ?_) (fun _ => ?_)
      | refine AC_cond rfl (fun _ => ?_) (fun _ => ?_))
    refine AC_for b.cons.length (fun j => ∀ c ∈ b.cons.take j, conB b c = true) (fun j => ⟨envOf [(1, .ptr 1 0), (7, .int .i64 (j : Nat))],
      bkOf [(1, .box [.lst 6 (rsS b.sorts) false, .lst 6 (rsC b.cons) false, .int .i64 b.elim])]⟩) (less_sub ⟨⟨_, rfl, .inl ⟨.refl _, rfl⟩⟩, ⟨_, rfl, .inl ⟨.refl _, rfl⟩⟩, trivial⟩ ⟨⟨⟨_, rfl, .refl _⟩, rfl⟩, trivial⟩) (fun c hc => by simp at hc) ?_
    intro j hj hI
    repeat' (first
      | refine WL_p hty rfl rfl ?_
      | refine WL_nil ?_
      | refine AC_seq ?_
      | refine AC_region ?_
      | refine AC_block ?_
      | refine AC_skip ?_
      | refine AC_condT rfl ?_
      | refine AC_condF rfl ?_
      | refine AC_exit ?_
      | refine AC_ret ?_
      | refine WL_ung rfl rfl ?_
      | refine WL_offT rfl rfl rfl ?_
      | refine WL_offF rfl rfl rfl ?_
      | refine WL_offU rfl rfl rfl ?_
      | refine WL_m rfl (m_idxN hty rfl rfl rfl (by assumption) rfl) ?_
      | refine ends_bool rfl ?_)
    refine WL_cmp rfl rfl rfl rfl (fun hc => ?_) (fun hc => ?_)
    · have hlt : j < b.cons.length := by rw [rsC_length] at hc; omega
      obtain ⟨c, hcc, hcm⟩ := get_of_lt hlt
      have rc := rsC_get hcc
      have hcs := size_le_sizesC hcm
      repeat' (first
        | refine endsR_bool rfl (fun h => Bool.noConfusion h)
        | refine AC_drawn [[], [], [1], [], [1, 2, 3], [1, 2, 3, 4], [0, 1, 2, 3, 4, 5], [0, 1, 2, 3, 4, 5, 6]] rfl rfl ?_
        | refine WD_callB rfl (con_spec b c hb (by omega)) rfl (fun _ => ?_) (fun _ => ?_)
        | refine WD_cons (.inl ⟨rfl, stepE_ok hty rfl rfl⟩) ?_
        | refine WD_cons (.inl ⟨rfl, m_idxN hty rfl rfl rfl (by assumption) rfl⟩) ?_
        | refine WD_ung rfl rfl ?_
        | refine WD_offT rfl rfl rfl ?_
        | refine WD_offF rfl rfl rfl ?_
        | refine WD_offU rfl rfl rfl ?_
        | refine WD_nil ⟨by kernel_rfl, ?_⟩
        | refine WL_p hty rfl rfl ?_
        | refine WL_nil ?_
        | refine AC_seq ?_
        | refine AC_region ?_
        | refine AC_block ?_
        | refine AC_skip ?_
        | refine AC_condT rfl ?_
        | refine AC_condF rfl ?_
        | refine AC_exit ?_
        | refine AC_ret ?_
        | refine WL_ung rfl rfl ?_
        | refine WL_offT rfl rfl rfl ?_
        | refine WL_offF rfl rfl rfl ?_
        | refine WL_offU rfl rfl rfl ?_
        | refine WL_m rfl (m_idxN hty rfl rfl rfl (by assumption) rfl) ?_
        | refine ends_bool rfl ?_
        | refine WL_cmp rfl rfl rfl rfl (fun _ => ?_) (fun _ => ?_)
        | refine AC_cond rfl (fun _ => ?_) (fun _ => ?_)
        | refine WD_cmp rfl rfl rfl rfl (fun _ => ?_) (fun _ => ?_))
      rename_i hq
      refine ⟨hlt, fun x hx => ?_, (less_sub ⟨⟨_, rfl, .inl ⟨.refl _, rfl⟩⟩, ⟨_, rfl, see_eq ?_ rfl⟩, trivial⟩ ⟨⟨⟨_, rfl, .refl _⟩, rfl⟩, trivial⟩)⟩
      · rw [List.take_add_one, hcc, Option.toList_some, List.mem_append, List.mem_singleton] at hx
        rcases hx with hx | rfl
        · exact hI x hx
        · exact hq
      · exact congrArg (AV.int .i64) ((wrap_ok (by omega) (by omega)).trans (by omega))
    · obtain rfl : j = b.cons.length := by rw [rsC_length] at hc; omega
      rw [List.take_length] at hI
      repeat' (first
        | refine endsR_bool rfl (fun _ => hI)
        | refine WL_p hty rfl rfl ?_
        | refine WL_nil ?_
        | refine AC_seq ?_
        | refine AC_region ?_
        | refine AC_block ?_
        | refine AC_skip ?_
        | refine AC_condT rfl ?_
        | refine AC_condF rfl ?_
        | refine AC_exit ?_
        | refine AC_ret ?_
        | refine WL_ung rfl rfl ?_
        | refine WL_offT rfl rfl rfl ?_
        | refine WL_offF rfl rfl rfl ?_
        | refine WL_offU rfl rfl rfl ?_
        | refine WL_m rfl (m_idxN hty rfl rfl rfl (by assumption) rfl) ?_
        | refine ends_bool rfl ?_
        | refine WL_cmp rfl rfl rfl rfl (fun _ => ?_) (fun _ => ?_)
        | refine AC_cond rfl (fun _ => ?_) (fun _ => ?_))

end Go.Proofs.Ytgjoeoojplbhpaa
