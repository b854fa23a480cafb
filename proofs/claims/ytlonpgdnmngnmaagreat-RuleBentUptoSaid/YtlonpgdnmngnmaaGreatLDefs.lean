/-
  A definition's constant is reduced to its body; no other one is.
-/
import Derived.Test.YtlonpgdnmngnmaaGreatGH
import Derived.Test.YtlonpgdnmngnmaaGreatGJ
import Derived.Test.YtlonpgdnmngnmaaGreatLStill
namespace Go.Proofs.YtlonpgdnmngnmaaGreat
set_option linter.unusedSimpArgs false
set_option linter.unusedVariables false
open Go.Aw Go.RowKit
def tbDefs5_6 : List (Nat × List Nat) := [(0, []), (1, [0]), (2, [0, 1]), (3, [0, 1, 2]), (4, [0, 1, 2]), (5, [0, 1, 2]), (6, [0, 1, 2, 4, 5]), (7, [0, 1, 2, 4, 5, 6]), (8, [0, 1, 2, 4, 5, 6, 7]), (9, [0, 1, 2, 3, 4, 5, 6, 7, 8]), (10, [0, 1, 2, 3, 4, 5, 6, 7, 8, 9]), (11, [0, 1, 2, 3, 4, 5, 6, 7, 8, 9, 10]), (12, [0, 1, 2, 3, 4, 5, 6, 7, 8, 9, 10, 11]), (13, [0, 1, 2, 3, 4, 5, 6, 7, 8, 9, 10, 11, 12]), (14, [0, 1, 2, 3, 4, 5, 6, 7, 8, 9, 10, 11, 12, 13])]
attribute [local irreducible] WL AC WD WE MStep OkOp
attribute [local irreducible] isFnT intK

theorem lookC_spec (l : List En) (n : Nat) (e : En) (hl : l.length ≤ 1048576) (he : l[n]? = some e) : FC Tryz.prog 36 [sE l, aT (.mk 3 (n : Nat) [])] (if e.kind = 2 then rxAV (.done e.body) else .nilf) := by
  have hof := of_spec l (.mk 3 (n : Nat) []) hl (fun _ => Int.natCast_nonneg _)
  have ho : ofE l (.mk 3 (n : Nat) []) = some e := by
    unfold ofE
    rw [if_pos ⟨rfl, Int.natCast_nonneg _⟩]
    exact he
  rw [ho] at hof
  have hd := done_spec e.body
  by_cases hk : e.kind = 2
  · rw [if_pos hk]
    refine FC_intro hty Tryz.func36 rfl rfl rfl fun w0 => ?_
    repeat' (first | exact absurd (show (3 : Int) = 6 by assumption) (by decide) | exact absurd (show (3 : Int) = 9 by assumption) (by decide) | exact absurd (show (3 : Int) = 10 by assumption) (by decide) | exact absurd (show (3 : Int) = 13 by assumption) (by decide) | exact absurd (show (3 : Int) = 3 from rfl) ‹_› | exact absurd hk ‹_› | refine WL_call 0 rfl hof rfl rfl rfl ?_ | refine WL_call 0 rfl hd rfl rfl rfl ?_ | refine WL_p hty rfl rfl ?_ | refine WL_nil ?_ | refine AC_seq ?_ | refine AC_region ?_ | refine AC_block ?_ | refine AC_skip ?_ | refine AC_condT rfl ?_ | refine AC_condF rfl ?_ | refine AC_ret ?_ | refine WL_ung rfl rfl ?_ | refine WL_offT rfl rfl rfl ?_ | refine WL_offF rfl rfl rfl ?_ | refine WL_offU rfl rfl rfl ?_ | refine WL_m rfl (m_idxN hty rfl rfl rfl (by assumption) rfl) ?_ | refine ends_bool rfl ?_ | refine WL_cmp rfl rfl rfl rfl (fun _ => ?_) (fun _ => ?_) | refine AC_cond rfl (fun _ => ?_) (fun _ => ?_))
    exact ends_wk rfl rfl (.refl _)
  · rw [if_neg hk]
    refine FC_intro hty Tryz.func36 rfl rfl rfl fun w0 => ?_
    repeat' (first | exact absurd (show (3 : Int) = 6 by assumption) (by decide) | exact absurd (show (3 : Int) = 9 by assumption) (by decide) | exact absurd (show (3 : Int) = 10 by assumption) (by decide) | exact absurd (show (3 : Int) = 13 by assumption) (by decide) | exact absurd (show (3 : Int) = 3 from rfl) ‹_› | exact absurd (by assumption) hk | refine WL_call 0 rfl hof rfl rfl rfl ?_ | refine WL_p hty rfl rfl ?_ | refine WL_nil ?_ | refine AC_seq ?_ | refine AC_region ?_ | refine AC_block ?_ | refine AC_skip ?_ | refine AC_condT rfl ?_ | refine AC_condF rfl ?_ | refine AC_ret ?_ | refine WL_ung rfl rfl ?_ | refine WL_offT rfl rfl rfl ?_ | refine WL_offF rfl rfl rfl ?_ | refine WL_offU rfl rfl rfl ?_ | refine WL_m rfl (m_idxN hty rfl rfl rfl (by assumption) rfl) ?_ | refine ends_bool rfl ?_ | refine WL_cmp rfl rfl rfl rfl (fun _ => ?_) (fun _ => ?_) | refine AC_cond rfl (fun _ => ?_) (fun _ => ?_))
    exact ends_wk rfl rfl (.refl _)

theorem checkC (n : Nat) (h : n < 65536) : checkT (.mk 3 (n : Nat) []) = 0 := by
  unfold checkT
  rw [if_neg (by simp [Tm.size, sizes]), if_neg (by simp [Tm.depth, depths]), if_pos]
  simp [formedT, formedTs, kidsR, inR]
  omega

set_option maxHeartbeats 4000000 in
theorem rootC_spec (l : List En) (n : Nat) (e : En) (hl : sizesE l ≤ 1048576) (hv : envI l = 0) (he : l[n]? = some e) : FC Tryz.prog 13 [sE l, aT (.mk 3 (n : Nat) [])] (if e.kind = 2 then .tup [aT e.body, .int .i64 0] else .tup [aT zT, .int .i64 10]) := by
  have hlen := len_le_sizesE l
  have hmem := List.mem_of_getElem? he
  have hes := size_le_sizesE hmem
  have hes' : e.size = e.typ.size + e.body.size + e.block.size := rfl
  have hlt := (List.getElem?_eq_some_iff.1 he).1
  have hll : l.length ≤ 200 := by
    unfold envI at hv
    split at hv
    · cases hv
    · omega
  have h1 := env_spec l hl
  rw [hv] at h1
  have h2 := tcheck_spec (.mk 3 (n : Nat) []) (by simp [Tm.size, sizes])
  rw [checkC n (by omega)] at h2
  have h3 := lookC_spec l n e (by omega) he
  have h4 := twin_spec e.body (by omega)
  have h5 := done1_spec e.body
  by_cases hk : e.kind = 2
  · rw [if_pos hk] at h3 ⊢
    refine FC_intro hty Tryz.func13 rfl rfl rfl fun w0 => ?_
    repeat' (first | exact absurd rfl ‹_› | refine WL_call 0 rfl h1 rfl rfl rfl ?_ | refine WL_call 0 rfl h2 rfl rfl rfl ?_ | refine WL_call 0 rfl h3 rfl rfl rfl ?_ | refine WL_call 0 rfl h4 rfl rfl rfl ?_ | (refine WL_m rfl (m_eqNil (v := rxAV (.done e.body)) ?_ rfl ?_ hfn41 rfl) ?_; (focus rfl); (focus rfl)) | refine WL_m rfl (m_callF 0 rfl rfl rfl h5 rfl rfl rfl) ?_ | refine WL_p hty rfl rfl ?_ | refine WL_nil ?_ | refine AC_seq ?_ | refine AC_region ?_ | refine AC_skip ?_ | refine AC_condT rfl ?_ | refine AC_condF rfl ?_ | refine AC_ret ?_ | refine ends_bool rfl ?_ | refine WL_cmp rfl rfl rfl rfl (fun _ => ?_) (fun _ => ?_) | refine AC_cond rfl (fun _ => ?_) (fun _ => ?_))
    exact ends_wk rfl rfl (.refl _)
  · rw [if_neg hk] at h3 ⊢
    refine FC_intro hty Tryz.func13 rfl rfl rfl fun w0 => ?_
    repeat' (first | exact absurd rfl ‹_› | refine WL_call 0 rfl h1 rfl rfl rfl ?_ | refine WL_call 0 rfl h2 rfl rfl rfl ?_ | refine WL_call 0 rfl h3 rfl rfl rfl ?_ | (refine WL_m rfl (m_eqNil (v := .nilf) ?_ rfl ?_ hfn41 rfl) ?_; (focus rfl); (focus rfl)) | refine WL_p hty rfl rfl ?_ | refine WL_nil ?_ | refine AC_seq ?_ | refine AC_region ?_ | refine AC_skip ?_ | refine AC_condT rfl ?_ | refine AC_condF rfl ?_ | refine AC_ret ?_ | refine ends_bool rfl ?_ | refine WL_cmp rfl rfl rfl rfl (fun _ => ?_) (fun _ => ?_) | refine AC_cond rfl (fun _ => ?_) (fun _ => ?_))
    refine ends_wk rfl rfl (.tup (.cons (.agg ?_) (.cons (.refl _) .nil)))
    repeat' (first | exact Wks.nil | refine Wks.cons (Wk.refl _) ?_ | refine Wks.cons (Wk.full _ _ _) ?_ | refine Wks.cons (Wk.nilF _ _ _) ?_)

set_option maxHeartbeats 4000000 in
theorem isC_spec (l : List En) (n : Nat) (e : En) (hl : sizesE l ≤ 1048576) (hv : envI l = 0) (he : l[n]? = some e) (hk : ¬ e.kind = 2) : FC Tryz.prog 12 [sE l, aT (.mk 3 (n : Nat) [])] (.bool false) := by
  have hlen := len_le_sizesE l
  have hlt := (List.getElem?_eq_some_iff.1 he).1
  have hll : l.length ≤ 200 := by
    unfold envI at hv
    split at hv
    · cases hv
    · omega
  have h1 := env_spec l hl
  rw [hv] at h1
  have h2 := tcheck_spec (.mk 3 (n : Nat) []) (by simp [Tm.size, sizes])
  rw [checkC n (by omega)] at h2
  have h3 := lookC_spec l n e (by omega) he
  rw [if_neg hk] at h3
  refine FC_intro hty Tryz.func12 rfl rfl rfl fun w0 => ?_
  repeat' (first | exact absurd rfl ‹_› | refine WL_call 0 rfl h1 rfl rfl rfl ?_ | refine WL_call 0 rfl h2 rfl rfl rfl ?_ | refine WL_call 0 rfl h3 rfl rfl rfl ?_ | (refine WL_m rfl (m_neNil (v := .nilf) ?_ rfl ?_ hfn41 rfl) ?_; (focus rfl); (focus rfl)) | refine WL_p hty rfl rfl ?_ | refine WL_nil ?_ | refine AC_seq ?_ | refine AC_region ?_ | refine AC_skip ?_ | refine AC_ret ?_ | refine WL_ung rfl rfl ?_ | refine WL_offT rfl rfl rfl ?_ | refine WL_offF rfl rfl rfl ?_ | refine WL_offU rfl rfl rfl ?_ | refine ends_bool rfl ?_ | refine WL_cmp rfl rfl rfl rfl (fun _ => ?_) (fun _ => ?_))
  all_goals rfl

set_option maxHeartbeats 16000000 in
theorem defs_spec (l : List En) (n : Int) (h : sizesE l ≤ 1048576) : FC Tryz.prog 5 [sE l, .int .i64 n] (.bool true) := by
  have h1 := heavyE_spec l h
  have h2 := rEnv_spec l h
  have hlen := len_le_sizesE l
  have hw := wakes_spec
  by_cases c1 : heavyE l = true
  · rw [c1] at h1
    refine FC_intro hty Tryz.func5 rfl rfl rfl fun w0 => ?_
    repeat' (first | refine WL_call 0 rfl h1 rfl rfl rfl ?_ | refine WL_p hty rfl rfl ?_ | refine WL_nil ?_ | refine AC_seq ?_ | refine AC_region ?_ | refine AC_skip ?_ | refine AC_condT rfl ?_ | refine AC_condF rfl ?_ | refine AC_ret ?_ | refine WL_ung rfl rfl ?_ | refine WL_offT rfl rfl rfl ?_ | refine WL_offF rfl rfl rfl ?_ | refine WL_offU rfl rfl rfl ?_ | refine WL_m rfl (m_idxN hty rfl rfl rfl (by assumption) rfl) ?_ | refine ends_bool rfl ?_ | refine WL_cmp rfl rfl rfl rfl (fun _ => ?_) (fun _ => ?_) | refine AC_cond rfl (fun _ => ?_) (fun _ => ?_))
    rfl
  have c1 : heavyE l = false := by simpa using c1
  rw [c1] at h1
  by_cases c2 : l.length = 0
  · have c2' : ((rsE l).length : Int) = 0 := by rw [rsE_length]; omega
    refine FC_intro hty Tryz.func5 rfl rfl rfl fun w0 => ?_
    repeat' (first | exact absurd c2' ‹_› | refine WL_call 0 rfl h1 rfl rfl rfl ?_ | refine WL_p hty rfl rfl ?_ | refine WL_nil ?_ | refine AC_seq ?_ | refine AC_region ?_ | refine AC_skip ?_ | refine AC_condT rfl ?_ | refine AC_condF rfl ?_ | refine AC_ret ?_ | refine WL_ung rfl rfl ?_ | refine WL_offT rfl rfl rfl ?_ | refine WL_offF rfl rfl rfl ?_ | refine WL_offU rfl rfl rfl ?_ | refine WL_m rfl (m_idxN hty rfl rfl rfl (by assumption) rfl) ?_ | refine ends_bool rfl ?_ | refine WL_cmp rfl rfl rfl rfl (fun _ => ?_) (fun _ => ?_) | refine AC_cond rfl (fun _ => ?_) (fun _ => ?_))
    rfl
  have c2' : ¬ ((rsE l).length : Int) = 0 := by rw [rsE_length]; omega
  by_cases c3 : envI l = 0
  case neg =>
    refine FC_intro hty Tryz.func5 rfl rfl rfl fun w0 => ?_
    repeat' (first | exact absurd (by assumption) c2' | exact absurd c3 ‹_› | refine WL_call 0 rfl h1 rfl rfl rfl ?_ | refine WL_call 0 rfl h2 rfl rfl rfl ?_ | refine WL_p hty rfl rfl ?_ | refine WL_nil ?_ | refine AC_seq ?_ | refine AC_region ?_ | refine AC_skip ?_ | refine AC_condT rfl ?_ | refine AC_condF rfl ?_ | refine AC_ret ?_ | refine WL_ung rfl rfl ?_ | refine WL_offT rfl rfl rfl ?_ | refine WL_offF rfl rfl rfl ?_ | refine WL_offU rfl rfl rfl ?_ | refine WL_m rfl (m_idxN hty rfl rfl rfl (by assumption) rfl) ?_ | refine ends_bool rfl ?_ | refine WL_cmp rfl rfl rfl rfl (fun _ => ?_) (fun _ => ?_) | refine AC_cond rfl (fun _ => ?_) (fun _ => ?_))
    rfl
  rw [c3] at h2
  obtain ⟨hm0, k, hk, hke⟩ := umod_ok n (m := l.length) (by omega) (by omega)
  obtain ⟨e, he, hmem⟩ := get_of_lt hk
  have hes := size_le_sizesE hmem
  have hes' : e.size = e.typ.size + e.body.size + e.block.size := rfl
  have hks := kterm_same e.body (by omega)
  have hz := kterm_zero true
  rw [← rsE_length l] at hm0
  have hr : FC Tryz.prog 13 [sE l, aT (.mk 3 (IntKind.i64.wrap ((IntKind.u64.wrap n).tmod (IntKind.u64.wrap ((rsE l).length : Nat)))) [])] (if e.kind = 2 then .tup [aT e.body, .int .i64 0] else .tup [aT zT, .int .i64 10]) := by
    rw [rsE_length]
    show FC _ _ [sE l, aT (.mk 3 (umod n l.length) [])] _
    rw [hke]; exact rootC_spec l k e h c3 he
  have n0 : 0 ≤ IntKind.i64.wrap ((IntKind.u64.wrap n).tmod (IntKind.u64.wrap ((rsE l).length : Nat))) := by
    rw [rsE_length]; show 0 ≤ umod n l.length; omega
  have re : (rsE l)[(IntKind.i64.wrap ((IntKind.u64.wrap n).tmod (IntKind.u64.wrap ((rsE l).length : Nat)))).toNat]? = some (cE e) := by
    rw [rsE_length]; show (rsE l)[(umod n l.length).toNat]? = _
    rw [hke]; exact rsE_get he
  by_cases hkd : e.kind = 2
  · rw [if_pos hkd] at hr
    refine FC_intro hty Tryz.func5 rfl rfl rfl fun w0 => ?_
    repeat' (first | exact absurd (by assumption) c2' | exact absurd rfl ‹_› | exact absurd hkd ‹_› | refine WL_call 0 rfl h1 rfl rfl rfl ?_ | refine WL_call 0 rfl h2 rfl rfl rfl ?_ | refine WL_m rfl (m_conv rfl intIs intU rfl) ?_ | refine WL_m rfl (m_conv rfl intUs intI rfl) ?_ | refine WL_m rfl (m_rem rfl rfl hm0 rfl) ?_ | refine WL_call 0 rfl (rC_spec _) rfl rfl rfl ?_ | refine WL_call 0 rfl hr rfl rfl rfl ?_ | refine WL_m rfl (m_idxL hty rfl rfl rfl n0 re rfl) ?_ | (refine AC_regK (id := 6) ?_; refine AC_less (less_sub (l := [(0, _), (1, _), (5, _), (6, _)]) (bl := [(5, _)]) ⟨⟨_, rfl, .inl ⟨.refl _, rfl⟩⟩, ⟨_, rfl, .inl ⟨.refl _, rfl⟩⟩, ⟨_, rfl, .inl ⟨.refl _, rfl⟩⟩, ⟨_, rfl, .inl ⟨.refl _, rfl⟩⟩, trivial⟩ ⟨⟨⟨_, rfl, .refl _⟩, rfl⟩, trivial⟩) ?_; refine AC_drawnE (id := 6) tbDefs5_6 rfl (by kernel_rfl) ?_) | refine WE_m rfl (m_idxL hty rfl rfl rfl n0 re rfl) ?_ | refine WE_call 0 rfl hks rfl rfl rfl ?_ | refine WE_call 0 rfl hw rfl rfl rfl ?_ | refine WE_cons (.inl ⟨rfl, stepE_ok hty rfl rfl⟩) ?_ | refine WE_cons (.inl ⟨rfl, m_idxN hty rfl rfl rfl (by assumption) rfl⟩) ?_ | refine WE_ung rfl rfl ?_ | refine WE_offT rfl rfl rfl ?_ | refine WE_offF rfl rfl rfl ?_ | refine WE_offU rfl rfl rfl ?_ | refine WE_nil ⟨by kernel_rfl, ?_⟩ | refine WL_p hty rfl rfl ?_ | refine WL_nil ?_ | refine AC_seq ?_ | refine AC_region ?_ | refine AC_skip ?_ | refine AC_condT rfl ?_ | refine AC_condF rfl ?_ | refine AC_ret ?_ | refine WL_ung rfl rfl ?_ | refine WL_offT rfl rfl rfl ?_ | refine WL_offF rfl rfl rfl ?_ | refine WL_offU rfl rfl rfl ?_ | refine WL_m rfl (m_idxN hty rfl rfl rfl (by assumption) rfl) ?_ | refine ends_bool rfl ?_ | refine WL_cmp rfl rfl rfl rfl (fun _ => ?_) (fun _ => ?_) | refine AC_cond rfl (fun _ => ?_) (fun _ => ?_) | refine WE_cmp rfl rfl rfl rfl (fun _ => ?_) (fun _ => ?_))
    all_goals rfl
  · rw [if_neg hkd] at hr
    have hi : FC Tryz.prog 12 [sE l, aT (.mk 3 (IntKind.i64.wrap ((IntKind.u64.wrap n).tmod (IntKind.u64.wrap ((rsE l).length : Nat)))) [])] (.bool false) := by
      rw [rsE_length]
      show FC _ _ [sE l, aT (.mk 3 (umod n l.length) [])] _
      rw [hke]; exact isC_spec l k e h c3 he hkd
    refine FC_intro hty Tryz.func5 rfl rfl rfl fun w0 => ?_
    repeat' (first | exact absurd (by assumption) c2' | exact absurd rfl ‹_› | exact absurd (by assumption) hkd | refine WL_call 0 rfl h1 rfl rfl rfl ?_ | refine WL_call 0 rfl h2 rfl rfl rfl ?_ | refine WL_m rfl (m_conv rfl intIs intU rfl) ?_ | refine WL_m rfl (m_conv rfl intUs intI rfl) ?_ | refine WL_m rfl (m_rem rfl rfl hm0 rfl) ?_ | refine WL_call 0 rfl (rC_spec _) rfl rfl rfl ?_ | refine WL_call 0 rfl hr rfl rfl rfl ?_ | refine WL_call 0 rfl hi rfl rfl rfl ?_ | refine WL_call 0 rfl hz rfl rfl rfl ?_ | refine WL_call 0 rfl hw rfl rfl rfl ?_ | refine WL_m rfl (m_idxL hty rfl rfl rfl n0 re rfl) ?_ | refine WL_p hty rfl rfl ?_ | refine WL_nil ?_ | refine AC_seq ?_ | refine AC_region ?_ | refine AC_skip ?_ | refine AC_condT rfl ?_ | refine AC_condF rfl ?_ | refine AC_ret ?_ | refine WL_ung rfl rfl ?_ | refine WL_offT rfl rfl rfl ?_ | refine WL_offF rfl rfl rfl ?_ | refine WL_offU rfl rfl rfl ?_ | refine WL_m rfl (m_idxN hty rfl rfl rfl (by assumption) rfl) ?_ | refine ends_bool rfl ?_ | refine WL_cmp rfl rfl rfl rfl (fun _ => ?_) (fun _ => ?_) | refine AC_cond rfl (fun _ => ?_) (fun _ => ?_))
    all_goals rfl

end Go.Proofs.YtlonpgdnmngnmaaGreat
