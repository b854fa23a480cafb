/-
  A right row is right no more with an entry that is bent.
-/
import Derived.Test.YtlonpgdnmngnmaaGreatLBentL
import Derived.Test.YtlonpgdnmngnmaaGreatLKTwinB
import Derived.Test.YtlonpgdnmngnmaaGreatLDefs
import Derived.Test.YtlonpgdnmngnmaaGreatLAw37
namespace Go.Proofs.YtlonpgdnmngnmaaGreat
set_option linter.unusedSimpArgs false
set_option linter.unusedVariables false
open Go.Aw Go.RowKit
attribute [local irreducible] WL AC WD WE MStep OkOp
attribute [local irreducible] isFnT intK

theorem isBad_spec (es : Nat) (rows : List (List AV)) (t : Tm) (h : FC Tryz.prog 21 [.lst es rows false] (.int .i64 12)) : FC Tryz.prog 12 [.lst es rows false, aT t] (.bool false) := by
  refine FC_intro hty Tryz.func12 rfl rfl rfl fun w0 => ?_
  repeat' (first | exact absurd (show (12 : Int) = 0 by assumption) (by decide) | refine WL_call 0 rfl h rfl rfl rfl ?_ | refine WL_p hty rfl rfl ?_ | refine WL_nil ?_ | refine AC_seq ?_ | refine AC_region ?_ | refine AC_skip ?_ | refine AC_ret ?_ | refine WL_ung rfl rfl ?_ | refine WL_offT rfl rfl rfl ?_ | refine WL_offF rfl rfl rfl ?_ | refine WL_offU rfl rfl rfl ?_ | refine ends_bool rfl ?_ | refine WL_cmp rfl rfl rfl rfl (fun _ => ?_) (fun _ => ?_))
  all_goals rfl

set_option maxRecDepth 4000 in
set_option maxHeartbeats 32000000 in
theorem bent_spec (l : List En) (n what : Int) (h : sizesE l + 2 ≤ 1048576) : FC Tryz.prog 4 [sE l, .int .i64 n, .int .i64 what] (.bool true) := by
  have h1 := heavyE_spec l (by omega)
  have h2 := rEnv_spec l (by omega)
  have hlen := len_le_sizesE l
  have hw := wakes_spec
  by_cases c1 : heavyE l = true
  · rw [c1] at h1
    refine FC_intro hty Tryz.func4 rfl rfl rfl fun w0 => ?_
    repeat' (first | refine WL_call 0 rfl h1 rfl rfl rfl ?_ | refine WL_p hty rfl rfl ?_ | refine WL_nil ?_ | refine AC_seq ?_ | refine AC_region ?_ | refine AC_block ?_ | refine AC_skip ?_ | refine AC_condT rfl ?_ | refine AC_condF rfl ?_ | refine AC_ret ?_ | refine WL_ung rfl rfl ?_ | refine WL_offT rfl rfl rfl ?_ | refine WL_offF rfl rfl rfl ?_ | refine WL_offU rfl rfl rfl ?_ | refine WL_m rfl (m_idxN hty rfl rfl rfl (by assumption) rfl) ?_ | refine ends_bool rfl ?_ | refine WL_cmp rfl rfl rfl rfl (fun _ => ?_) (fun _ => ?_) | refine AC_cond rfl (fun _ => ?_) (fun _ => ?_))
    rfl
  have c1 : heavyE l = false := by simpa using c1
  rw [c1] at h1
  by_cases c2 : l.length = 0
  · have c2' : ((rsE l).length : Int) = 0 := by rw [rsE_length]; omega
    refine FC_intro hty Tryz.func4 rfl rfl rfl fun w0 => ?_
    repeat' (first | exact absurd c2' ‹_› | refine WL_call 0 rfl h1 rfl rfl rfl ?_ | refine WL_p hty rfl rfl ?_ | refine WL_nil ?_ | refine AC_seq ?_ | refine AC_region ?_ | refine AC_block ?_ | refine AC_skip ?_ | refine AC_condT rfl ?_ | refine AC_condF rfl ?_ | refine AC_ret ?_ | refine WL_ung rfl rfl ?_ | refine WL_offT rfl rfl rfl ?_ | refine WL_offF rfl rfl rfl ?_ | refine WL_offU rfl rfl rfl ?_ | refine WL_m rfl (m_idxN hty rfl rfl rfl (by assumption) rfl) ?_ | refine ends_bool rfl ?_ | refine WL_cmp rfl rfl rfl rfl (fun _ => ?_) (fun _ => ?_) | refine AC_cond rfl (fun _ => ?_) (fun _ => ?_))
    rfl
  have c2' : ¬ ((rsE l).length : Int) = 0 := by rw [rsE_length]; omega
  by_cases c4 : 200 < l.length
  · have c4' : ((rsE l).length : Int) > 200 := by rw [rsE_length]; omega
    refine FC_intro hty Tryz.func4 rfl rfl rfl fun w0 => ?_
    repeat' (first | exact absurd (by assumption) c2' | exact absurd c4' ‹_› | refine WL_call 0 rfl h1 rfl rfl rfl ?_ | refine WL_p hty rfl rfl ?_ | refine WL_nil ?_ | refine AC_seq ?_ | refine AC_region ?_ | refine AC_block ?_ | refine AC_skip ?_ | refine AC_condT rfl ?_ | refine AC_condF rfl ?_ | refine AC_ret ?_ | refine WL_ung rfl rfl ?_ | refine WL_offT rfl rfl rfl ?_ | refine WL_offF rfl rfl rfl ?_ | refine WL_offU rfl rfl rfl ?_ | refine WL_m rfl (m_idxN hty rfl rfl rfl (by assumption) rfl) ?_ | refine ends_bool rfl ?_ | refine WL_cmp rfl rfl rfl rfl (fun _ => ?_) (fun _ => ?_) | refine AC_cond rfl (fun _ => ?_) (fun _ => ?_))
    rfl
  have c4' : ¬ ((rsE l).length : Int) > 200 := by rw [rsE_length]; omega
  by_cases c3 : envI l = 0
  case neg =>
    refine FC_intro hty Tryz.func4 rfl rfl rfl fun w0 => ?_
    repeat' (first | exact absurd (by assumption) c2' | exact absurd (by assumption) c4' | exact absurd c3 ‹_› | refine WL_call 0 rfl h1 rfl rfl rfl ?_ | refine WL_call 0 rfl h2 rfl rfl rfl ?_ | refine WL_p hty rfl rfl ?_ | refine WL_nil ?_ | refine AC_seq ?_ | refine AC_region ?_ | refine AC_block ?_ | refine AC_skip ?_ | refine AC_condT rfl ?_ | refine AC_condF rfl ?_ | refine AC_ret ?_ | refine WL_ung rfl rfl ?_ | refine WL_offT rfl rfl rfl ?_ | refine WL_offF rfl rfl rfl ?_ | refine WL_offU rfl rfl rfl ?_ | refine WL_m rfl (m_idxN hty rfl rfl rfl (by assumption) rfl) ?_ | refine ends_bool rfl ?_ | refine WL_cmp rfl rfl rfl rfl (fun _ => ?_) (fun _ => ?_) | refine AC_cond rfl (fun _ => ?_) (fun _ => ?_))
    rfl
  rw [c3] at h2
  have h3 := env_spec l (by omega)
  rw [c3] at h3
  obtain ⟨hm0, k, hk, hke⟩ := umod_ok n (m := l.length) (by omega) (by omega)
  obtain ⟨e, he, hmem⟩ := get_of_lt hk
  have hes := size_le_sizesE hmem
  have hes' : e.size = e.typ.size + e.body.size + e.block.size := rfl
  have hri := env_right c3 he
  have hwh := which_small c3 he
  have hba := base_small c3 he
  have htw : FC Tryz.prog 17 [sE l] (.own 45 12 (rsE l) true) := by
    have := ktwinEntries_spec l (by omega)
    cases hq : rsE l with
    | nil => rw [hq] at c2'; exact absurd rfl c2'
    | cons r rl => rw [hq] at this; exact this
  rw [← rsE_length l] at hm0
  obtain ⟨I0, hI0⟩ : ∃ I0, I0 = IntKind.i64.wrap ((IntKind.u64.wrap n).tmod (IntKind.u64.wrap ((rsE l).length : Nat))) := ⟨_, rfl⟩
  have hIk : I0 = (k : Int) := by rw [hI0, rsE_length]; exact hke
  have n0 : 0 ≤ I0 := by omega
  have n1 : I0 < ((rsE l).length : Nat) := by rw [rsE_length]; omega
  have re : (rsE l)[I0.toNat]? = some (cE e) := by rw [hIk]; exact rsE_get he
  have m6 : IntKind.u64.wrap what = IntKind.u64.wrap what := rfl
  have z6 : (6 : Int) ≠ 0 := by decide
  have tail : ∀ (e' : En) (row : List AV), e'.size ≤ e.size + 2 → Wks row (cE e') → rightE e' (k : Nat) = false → FC Tryz.prog 21 [.lst 12 ((rsE l).set I0.toNat row) false] (.int .i64 12) := fun e' row hz hr hb => by
    have hbe := bent_env (l := l) (n := k) (e := e') (by omega) hk hb
    have hsz : sizesE (l.set k e') ≤ 1048576 := by
      have := sizesE_set l k e' he
      omega
    have := env_spec (l.set k e') hsz
    rw [hbe] at this
    refine this.args (.cons ?_ .nil)
    rw [hIk]
    show Wk (.lst 12 ((rsE l).set k row) false) (.lst 12 (rsE (l.set k e')) false)
    rw [← rsE_set]
    exact .rows (Wkr_set hr)
  have hC : FC Tryz.prog 18 [.int .i64 I0] (aT (.mk 3 I0 [])) := rC_spec I0
  have hsz0 : ∀ k n : Int, (Tm.mk k n []).size = 1 := fun k n => by simp [Tm.size, sizes]
  have hzs : zT.size = 1 := by simp [zT, Tm.size, sizes]
  have htp := e.typ.size_pos
  have hbp := e.body.size_pos
  have t0 := tail { e with typ := .mk 3 I0 [] } _ (by show (Tm.mk 3 I0 []).size + e.body.size + e.block.size ≤ _; rw [hsz0]; omega) (Wks.refl _) (bent_typ (by rw [hIk]; exact bent_C k))
  have t1 := tail { e with typ := .mk 1 0 [] } _ (by show (Tm.mk 1 0 []).size + e.body.size + e.block.size ≤ _; rw [hsz0]; omega) (Wks.refl _) (bent_typ (bent_V k))
  have t2 : e.kind = 2 → FC Tryz.prog 21 [.lst 12 ((rsE l).set I0.toNat [.int .i64 e.kind, .int .i64 e.typ.kind, .int .i64 e.typ.num, .lst 3 (rsT e.typ.kids) false, .int .i64 0, .int .i64 0, .lst 3 [] true, .int .i64 e.base, .int .i64 e.which,
      .lst 6 (rsS e.block.sorts) false, .lst 6 (rsC e.block.cons) false, .int .i64 e.block.elim]) false] (.int .i64 12) := fun hk2 => tail { e with body := zT } _ (by show e.typ.size + zT.size + e.block.size ≤ _; rw [hzs]; omega)
      (.cons (.refl _) (.cons (.refl _) (.cons (.refl _) (.cons (.refl _) (.cons (.refl _) (.cons (.refl _) (.cons (.full _ _ _) (.cons (.refl _) (.cons (.refl _) (.cons (.refl _) (.cons (.refl _) (.cons (.refl _) .nil)))))))))))) (bent_body2 hk2)
  have t3 : ¬ e.kind = 2 → _ := fun hk2 => tail { e with body := .mk 2 0 [] } _ (by show e.typ.size + (Tm.mk 2 0 []).size + e.block.size ≤ _; rw [hsz0]; omega) (Wks.refl _) (bent_bodyU hk2)
  have w4 : IntKind.i64.wrap (e.base + 1) = e.base + 1 := wrap_ok (by omega) (by omega)
  have w5 : IntKind.i64.wrap (e.which - 100) = e.which - 100 := wrap_ok (by omega) (by omega)
  have t4 := tail { e with base := e.base + 1 } _ (by show e.typ.size + e.body.size + e.block.size ≤ _; omega) (Wks.refl _) (bent_base hri)
  have t5 := tail { e with kind := 7 } _ (by show e.typ.size + e.body.size + e.block.size ≤ _; omega) (Wks.refl _) bent_kind
  have t6 := tail { e with which := e.which - 100 } _ (by show e.typ.size + e.body.size + e.block.size ≤ _; omega) (Wks.refl _) (bent_which c3 he)
  rw [← w4] at t4
  rw [← w5] at t6
  clear tail
  have hu := ru_spec 0
  have hv := rv_spec 0
  subst hI0
  refine FC_intro hty Tryz.func4 rfl rfl rfl fun w0 => ?_
  repeat' (first | exact absurd (by assumption) c2' | exact absurd (by assumption) c4' | exact absurd rfl ‹_› | refine WL_call 0 rfl h1 rfl rfl rfl ?_ | refine WL_call 0 rfl h2 rfl rfl rfl ?_ | refine WL_m rfl (m_conv rfl intIs intU rfl) ?_ | refine WL_m rfl (m_conv rfl intUs intI rfl) ?_ | refine WL_m rfl (m_rem rfl rfl hm0 rfl) ?_ | refine WL_m rfl (m_rem rfl rfl z6 rfl) ?_ | refine WL_call 20 rfl htw rfl rfl rfl ?_ | refine WL_call 0 rfl hC rfl rfl rfl ?_ | refine WL_call 0 rfl hv rfl rfl rfl ?_ | refine WL_call 0 rfl hu rfl rfl rfl ?_ | refine WL_m rfl (m_idxA hty rfl rfl rfl rfl rfl n0 n1 rfl) ?_ | refine WL_m rfl (m_loadA1 hty rfl rfl rfl rfl re rfl rfl) ?_ | refine WL_m rfl (m_storeA hty rfl rfl rfl rfl re rfl rfl rfl rfl rfl) ?_ | refine WL_call 0 rfl h3 rfl rfl rfl ?_ | (refine WL_less (less_freeze 20 rfl) ?_; refine WL_call 0 rfl t0 rfl rfl rfl ?_) | (refine WL_less (less_freeze 20 rfl) ?_; refine WL_call 0 rfl t1 rfl rfl rfl ?_) | (refine WL_less (less_freeze 20 rfl) ?_; refine WL_call 0 rfl (t2 (by assumption)) rfl rfl rfl ?_) | (refine WL_less (less_freeze 20 rfl) ?_; refine WL_call 0 rfl (t3 (by assumption)) rfl rfl rfl ?_) | (refine WL_less (less_freeze 20 rfl) ?_; refine WL_call 0 rfl t4 rfl rfl rfl ?_) | (refine WL_less (less_freeze 20 rfl) ?_; refine WL_call 0 rfl t5 rfl rfl rfl ?_) | (refine WL_less (less_freeze 20 rfl) ?_; refine WL_call 0 rfl t6 rfl rfl rfl ?_) | refine WL_call 0 rfl (isBad_spec _ _ _ t0) rfl rfl rfl ?_ | refine WL_call 0 rfl (isBad_spec _ _ _ t1) rfl rfl rfl ?_ | refine WL_call 0 rfl (isBad_spec _ _ _ (t2 (by assumption))) rfl rfl rfl ?_ | refine WL_call 0 rfl (isBad_spec _ _ _ (t3 (by assumption))) rfl rfl rfl ?_ | refine WL_call 0 rfl (isBad_spec _ _ _ t4) rfl rfl rfl ?_ | refine WL_call 0 rfl (isBad_spec _ _ _ t5) rfl rfl rfl ?_ | refine WL_call 0 rfl (isBad_spec _ _ _ t6) rfl rfl rfl ?_ | refine WL_call 0 rfl hw rfl rfl rfl ?_ | refine WL_p hty rfl rfl ?_ | refine WL_nil ?_ | refine AC_seq ?_ | refine AC_region ?_ | refine AC_block ?_ | refine AC_skip ?_ | refine AC_condT rfl ?_ | refine AC_condF rfl ?_ | refine AC_ret ?_ | refine WL_ung rfl rfl ?_ | refine WL_offT rfl rfl rfl ?_ | refine WL_offF rfl rfl rfl ?_ | refine WL_offU rfl rfl rfl ?_ | refine WL_m rfl (m_idxN hty rfl rfl rfl (by assumption) rfl) ?_ | refine ends_bool rfl ?_ | refine WL_cmp rfl rfl rfl rfl (fun _ => ?_) (fun _ => ?_) | refine AC_cond rfl (fun _ => ?_) (fun _ => ?_))
  all_goals rfl

end Go.Proofs.YtlonpgdnmngnmaaGreat
