/-
  How heavy a row is; what is made is not reduced.
-/
import Derived.Test.YtlonpgdnmngnmaaGreatGF
import Derived.Test.YtlonpgdnmngnmaaGreatGH
import Derived.Test.YtlonpgdnmngnmaaGreatGD
namespace Go.Proofs.YtlonpgdnmngnmaaGreat
set_option linter.unusedSimpArgs false
set_option linter.unusedVariables false
open Go.Aw Go.RowKit
def tbStill9_7 : List (Nat × List Nat) := [(0, []), (1, []), (2, [0, 1]), (3, [0, 1, 2]), (4, [0, 1, 2, 3]), (5, []), (6, []), (7, [5, 6]), (8, [5, 6, 7]), (9, [5, 6, 7, 8]), (10, [0, 1, 2, 3, 4, 5, 6, 7, 8, 9]), (11, [0, 1, 2, 3, 4, 5, 6, 7, 8, 9, 10]), (12, [0, 1, 2, 3, 4, 5, 6, 7, 8, 9, 10, 11]), (13, [0, 1, 2, 3, 4, 5, 6, 7, 8, 9, 10, 11, 12]), (14, [0, 1, 2, 3, 4, 5, 6, 7, 8, 9, 10, 11, 12]), (15, [0, 1, 2, 3, 4, 5, 6, 7, 8, 9, 10, 11, 12, 13, 14]), (16, [0, 1, 2, 3, 4, 5, 6, 7, 8, 9, 10, 11, 12, 13, 14, 15]), (17, [0, 1, 2, 3, 4, 5, 6, 7, 8, 9, 10, 11, 12, 13, 14, 15, 16]), (18, [0, 1, 2, 3, 4, 5, 6, 7, 8, 9, 10, 11, 12, 13, 14, 15, 16, 17]), (19, [0, 1, 2, 3, 4, 5, 6, 7, 8, 9, 10, 11, 12, 13, 14, 15, 16, 17, 18])]
def tbStill9_9 : List (Nat × List Nat) := [(0, []), (1, []), (2, []), (3, [1, 2]), (4, [1, 2, 3]), (5, [1, 2, 3, 4]), (6, [1, 2, 3, 4, 5]), (7, [0, 1, 2, 3, 4, 5, 6]), (8, []), (9, []), (10, [8, 9]), (11, [8, 9, 10]), (12, [8, 9, 10, 11]), (13, [1, 2, 3, 4, 5, 6, 8, 9, 10, 11, 12]), (14, [0, 1, 2, 3, 4, 5, 6, 7, 8, 9, 10, 11, 12, 13]), (15, [0, 1, 2, 3, 4, 5, 6, 7, 8, 9, 10, 11, 12, 13, 14])]
attribute [local irreducible] WL AC WD WE MStep OkOp

/-! how heavy a row is -/
def sumE : List En → Nat
  | [] => 0
  | e :: l => e.typ.size + e.body.size + sumE l
theorem sumE_le : ∀ l : List En, sumE l ≤ sizesE l
  | [] => Nat.le_refl _
  | e :: l => by
    have := sumE_le l
    have h : e.size = e.typ.size + e.body.size + e.block.size := rfl
    simp only [sumE, sizesE]; omega
theorem sumE_append (l m : List En) : sumE (l ++ m) = sumE l + sumE m := by
  induction l with
  | nil => simp [sumE]
  | cons a l ih => simp only [List.cons_append, sumE, ih]; omega
theorem sumE_next {l : List En} {i : Nat} {e : En} (h : l[i]? = some e) : sumE (l.take (i + 1)) = sumE (l.take i) + (e.typ.size + e.body.size) := by
  rw [List.take_add_one, h, Option.toList_some, sumE_append]; simp [sumE]
theorem sumE_take (l : List En) (i : Nat) : sumE (l.take i) ≤ sumE l := by
  conv => rhs; rw [← List.take_append_drop i l]
  rw [sumE_append]; omega
def heavy1E (e : En) : Bool := heavyT [e.typ, e.body] || heavyB e.block
def heavyE (l : List En) : Bool := decide (220 < l.length) || (l.any heavy1E || decide (20000 < sumE l))

theorem heavyTT (a b : Tm) (h : sizes [a, b] ≤ 1048576) : FC Tryz.prog 10 [.lst 3 [cT a, cT b] true] (.bool (heavyT [a, b])) := by
  have := (heavy2_spec [a, b] h).args (xs := [.lst 3 (rsT [a, b]) true]) (.cons (.full _ _ _) .nil)
  rwa [rs2] at this

set_option maxHeartbeats 4000000 in
theorem heavyE_spec (l : List En) (hl : sizesE l ≤ 1048576) : FC Tryz.prog 9 [sE l] (.bool (heavyE l)) := by
  have hlen := len_le_sizesE l
  by_cases hb : 220 < l.length
  · have he : heavyE l = true := by unfold heavyE; rw [decide_eq_true hb]; rfl
    rw [he]
    refine FC_intro hty Tryz.func9 rfl rfl rfl fun w0 => ?_
    repeat' (first | (rename_i hc; exact absurd (show 220 < ((rsE l).length : Int) by rw [rsE_length]; omega) hc) | refine WL_p hty rfl rfl ?_ | refine WL_nil ?_ | refine AC_seq ?_ | refine AC_region ?_ | refine AC_block ?_ | refine AC_skip ?_ | refine AC_condT rfl ?_ | refine AC_condF rfl ?_ | refine AC_exit ?_ | refine AC_ret ?_ | refine ends_bool rfl ?_ | refine WL_cmp rfl rfl rfl rfl (fun _ => ?_) (fun _ => ?_) | refine AC_cond rfl (fun _ => ?_) (fun _ => ?_))
    all_goals rfl
  have he : heavyE l = (l.any heavy1E || decide (20000 < sumE l)) := by unfold heavyE; rw [decide_eq_false hb]; rfl
  rw [he]
  refine FC_intro hty Tryz.func9 rfl rfl rfl fun w0 => ?_
  repeat' (first | (rename_i hc; exact absurd hc (show ¬ 220 < ((rsE l).length : Int) by rw [rsE_length]; omega)) | refine WL_p hty rfl rfl ?_ | refine WL_nil ?_ | refine AC_seq ?_ | refine AC_region ?_ | refine AC_block ?_ | refine AC_skip ?_ | refine AC_condT rfl ?_ | refine AC_condF rfl ?_ | refine AC_exit ?_ | refine AC_ret ?_ | refine ends_bool rfl ?_ | refine WL_cmp rfl rfl rfl rfl (fun _ => ?_) (fun _ => ?_) | refine AC_cond rfl (fun _ => ?_) (fun _ => ?_))
  refine AC_for l.length (fun i => (l.take i).any heavy1E = false) (fun i => ⟨envOf [(0, sE l), (3, .int .i64 (sumE (l.take i) : Nat)), (4, .int .i64 (i : Nat))], bkOf []⟩)
    (less_sub ⟨⟨_, rfl, .inl ⟨.refl _, rfl⟩⟩, ⟨_, rfl, .inl ⟨.refl _, rfl⟩⟩, ⟨_, rfl, .inl ⟨.refl _, rfl⟩⟩, trivial⟩ trivial) rfl ?_
  intro i hi hI
  repeat' (first | refine WL_p hty rfl rfl ?_ | refine WL_nil ?_ | refine AC_seq ?_ | refine AC_region ?_ | refine AC_block ?_ | refine AC_skip ?_ | refine AC_condT rfl ?_ | refine AC_condF rfl ?_ | refine AC_exit ?_ | refine AC_ret ?_ | refine ends_bool rfl ?_)
  refine WL_cmp rfl rfl rfl rfl (fun hc => ?_) (fun hc => ?_)
  · have hlt : i < l.length := by rw [rsE_length] at hc; omega
    obtain ⟨e, he', hmem⟩ := get_of_lt hlt
    have re := rsE_get he'
    have hes := size_le_sizesE hmem
    have hes' : e.size = e.typ.size + e.body.size + e.block.size := rfl
    have h1 := heavyTT e.typ e.body (by simp only [sizes]; omega)
    have h2 := heavyB_spec e.block (by omega)
    have h3 := size_spec e.typ (by omega)
    have h4 := size_spec e.body (by omega)
    have hat := any_take_succ (p := heavy1E) he'
    have hs1 := sumE_next he'
    have hs2 := sumE_take l (i + 1)
    have hs3 := sumE_le l
    have w1 : IntKind.i64.wrap ((sumE (l.take i) : Nat) + (e.typ.size : Nat) : Int) = (sumE (l.take i) : Nat) + (e.typ.size : Nat) := wrap_ok (by omega) (by omega)
    have w2 : IntKind.i64.wrap (IntKind.i64.wrap ((sumE (l.take i) : Nat) + (e.typ.size : Nat) : Int) + (e.body.size : Nat)) = (sumE (l.take (i + 1)) : Nat) := by
      rw [w1, hs1]
      refine (wrap_ok ?_ ?_).trans ?_ <;> omega
    repeat' (first | (refine AC_reg (id := 7) ?_; refine AC_drawnE (id := 7) tbStill9_7 rfl (by kernel_rfl) ?_) | (refine AC_reg (id := 9) ?_; refine AC_less (less_sub (l := [(0, _), (3, _), (4, _)]) (bl := []) ⟨⟨_, rfl, .inl ⟨.refl _, rfl⟩⟩, ⟨_, rfl, .inl ⟨.refl _, rfl⟩⟩, ⟨_, rfl, .inl ⟨.refl _, rfl⟩⟩, trivial⟩ trivial) ?_; refine AC_drawnE (id := 9) tbStill9_9 rfl (by kernel_rfl) ?_) | refine WE_callB rfl h1 rfl (fun _ => ?_) (fun _ => ?_) | refine WE_callB rfl h2 rfl (fun _ => ?_) (fun _ => ?_) | refine WE_call 0 rfl h3 rfl rfl rfl ?_ | refine WE_call 0 rfl h4 rfl rfl rfl ?_ | refine WE_cons (.inl ⟨rfl, stepE_ok hty rfl rfl⟩) ?_ | refine WE_cons (.inl ⟨rfl, m_idxN hty rfl rfl rfl (by assumption) rfl⟩) ?_ | refine WE_ung rfl rfl ?_ | refine WE_offT rfl rfl rfl ?_ | refine WE_offF rfl rfl rfl ?_ | refine WE_offU rfl rfl rfl ?_ | refine WE_nil ⟨by kernel_rfl, ?_⟩ | refine WL_p hty rfl rfl ?_ | refine WL_nil ?_ | refine AC_seq ?_ | refine AC_region ?_ | refine AC_block ?_ | refine AC_skip ?_ | refine AC_condT rfl ?_ | refine AC_condF rfl ?_ | refine AC_exit ?_ | refine AC_ret ?_ | refine ends_bool rfl ?_ | refine WL_cmp rfl rfl rfl rfl (fun _ => ?_) (fun _ => ?_) | refine AC_cond rfl (fun _ => ?_) (fun _ => ?_) | refine WE_cmp rfl rfl rfl rfl (fun _ => ?_) (fun _ => ?_))
    all_goals first
      | have h5 : l.any heavy1E = true := any_of_get he' (by simp_all [heavy1E]; done)
        simp [h5]
        done
      | refine ⟨hlt, ?_, (less_sub ⟨⟨_, rfl, .inl ⟨.refl _, rfl⟩⟩, ⟨_, rfl, see_eq ?_ rfl⟩, ⟨_, rfl, see_eq ?_ rfl⟩, trivial⟩ trivial)⟩
        · simp_all [heavy1E]
        · exact congrArg (AV.int .i64) w2
        · exact congrArg (AV.int .i64) ((wrap_ok (by omega) (by omega)).trans (by omega))
  · obtain rfl : i = l.length := by rw [rsE_length] at hc; omega
    rw [List.take_length] at hI
    repeat' (first | refine WL_p hty rfl rfl ?_ | refine WL_nil ?_ | refine AC_seq ?_ | refine AC_region ?_ | refine AC_block ?_ | refine AC_skip ?_ | refine AC_condT rfl ?_ | refine AC_condF rfl ?_ | refine AC_exit ?_ | refine AC_ret ?_ | refine ends_bool rfl ?_ | refine WL_cmp rfl rfl rfl rfl (fun _ => ?_) (fun _ => ?_) | refine AC_cond rfl (fun _ => ?_) (fun _ => ?_))
    all_goals (rw [List.take_length] at *; simp [hI]; omega)

/-! what is made -/
def mades (k : Int) : Bool := decide (k = 2) || (decide (k = 4) || (decide (k = 5) || (decide (k = 7) || (decide (k = 8) || (decide (k = 11) || (decide (k = 12) || decide (k = 1)))))))
theorem mades_not {k : Int} (h : mades k = true) : k ≠ 6 ∧ k ≠ 9 ∧ k ≠ 10 ∧ k ≠ 13 ∧ k ≠ 3 := by
  simp only [mades, Bool.or_eq_true, decide_eq_true_eq] at h; omega
theorem lookM_spec (l : List En) (t : Tm) (h : mades t.kind = true) : FC Tryz.prog 36 [sE l, aT t] .nilf := by
  obtain ⟨k6, k9, k10, k13, k3⟩ := mades_not h
  refine FC_intro hty Tryz.func36 rfl rfl rfl fun w0 => ?_
  repeat' (first | exact absurd (by assumption) k6 | exact absurd (by assumption) k9 | exact absurd (by assumption) k10 | exact absurd (by assumption) k13 | exact absurd (by assumption) k3 | refine WL_p hty rfl rfl ?_ | refine WL_nil ?_ | refine AC_seq ?_ | refine AC_region ?_ | refine AC_block ?_ | refine AC_skip ?_ | refine AC_condT rfl ?_ | refine AC_condF rfl ?_ | refine AC_ret ?_ | refine WL_ung rfl rfl ?_ | refine WL_offT rfl rfl rfl ?_ | refine WL_offF rfl rfl rfl ?_ | refine WL_offU rfl rfl rfl ?_ | refine WL_m rfl (m_idxN hty rfl rfl rfl (by assumption) rfl) ?_ | refine ends_bool rfl ?_ | refine WL_cmp rfl rfl rfl rfl (fun _ => ?_) (fun _ => ?_) | refine AC_cond rfl (fun _ => ?_) (fun _ => ?_))
  exact ends_wk rfl rfl (.refl _)
attribute [local irreducible] isFnT
set_option maxHeartbeats 4000000 in
theorem isM_spec (l : List En) (t : Tm) (hl : sizesE l ≤ 1048576) (hs : t.size ≤ 1048576) (h : mades t.kind = true) : FC Tryz.prog 12 [sE l, aT t] (.bool false) := by
  have h1 := env_spec l hl
  have h2 := tcheck_spec t hs
  have h3 := lookM_spec l t h
  refine FC_intro hty Tryz.func12 rfl rfl rfl fun w0 => ?_
  repeat' (first | refine WL_call 0 rfl h1 rfl rfl rfl ?_ | refine WL_call 0 rfl h2 rfl rfl rfl ?_ | refine WL_call 0 rfl h3 rfl rfl rfl ?_ | (refine WL_m rfl (m_neNil (v := .nilf) ?_ rfl ?_ hfn41 rfl) ?_; (focus rfl); (focus rfl)) | refine WL_p hty rfl rfl ?_ | refine WL_nil ?_ | refine AC_seq ?_ | refine AC_region ?_ | refine AC_skip ?_ | refine AC_ret ?_ | refine WL_ung rfl rfl ?_ | refine WL_offT rfl rfl rfl ?_ | refine WL_offF rfl rfl rfl ?_ | refine WL_offU rfl rfl rfl ?_ | refine ends_bool rfl ?_ | refine WL_cmp rfl rfl rfl rfl (fun _ => ?_) (fun _ => ?_))
  all_goals rfl

theorem checkT_ne10 (t : Tm) : checkT t ≠ 10 := by
  unfold checkT
  split
  · decide
  · split
    · decide
    · split <;> decide
theorem instT_ne10 (t : Tm) (l : List Tm) (u : Int) : (instT t l u).2 ≠ 10 := by
  unfold instT
  split
  · show openE t l u ≠ 10
    unfold openE
    split
    · exact checkT_ne10 t
    · split
      · exact checkT_ne10 _
      · split <;> decide
  · split
    · decide
    · split
      · decide
      · split
        · decide
        · show (0 : Int) ≠ 10
          decide
theorem still0 (t : Tm) (h : checkT t = 0) : (is0 t = true ∧ (root0 t).2 ≠ 10) ∨ (is0 t = false ∧ root0 t = (zT, 10)) := by
  have hr : root0 t = match look0 t with
    | .none => (zT, 10)
    | .inst f u => if (instT (f.kids.getD 1 zT) (u.kids.drop 1) 0).2 ≠ 0 then (zT, (instT (f.kids.getD 1 zT) (u.kids.drop 1) 0).2) else ((instT (f.kids.getD 1 zT) (u.kids.drop 1) 0).1, 0)
    | .done u => (u, 0) := by unfold root0; rw [if_neg (by omega)]; rfl
  have hi : is0 t = isRx (look0 t) := by unfold is0; rw [decide_eq_true h]; rfl
  rw [hi, hr]
  cases look0 t with
  | none => exact .inr ⟨rfl, rfl⟩
  | inst f u =>
    refine .inl ⟨rfl, ?_⟩
    show (if _ then _ else _ : Tm × Int).2 ≠ 10
    split
    · exact instT_ne10 _ _ _
    · show (0 : Int) ≠ 10
      decide
  | done u => exact .inl ⟨rfl, show (0 : Int) ≠ 10 by decide⟩

theorem kterm_zero (f : Bool) : FC Tryz.prog 14 [aT zT, .agg [.int .i64 0, .int .i64 0, .lst 3 [] f]] (.bool true) := by
  have := (kterm_same zT (by simp [zT, Tm.size, sizes])).args (xs := [aT zT, .agg [.int .i64 0, .int .i64 0, .lst 3 [] f]]) (.cons (.refl _) (.cons (.agg (.cons (.refl _) (.cons (.refl _) (.cons (.nilF _ _ _) .nil)))) .nil))
  exact this

theorem hboolS : isBoolT Tryz.prog 4 = true := by kernel_rfl
attribute [local irreducible] isBoolT

set_option maxHeartbeats 16000000 in
theorem still_spec (t : Tm) (l : List En) (h : t.size + sizesE l ≤ 1048576) : FC Tryz.prog 3 [aT t, sE l] (.bool true) := by
  have h1 := heavyE_spec l (by omega)
  have h2 := heavy1_spec t (by omega)
  have h3 := check_spec t (by omega)
  by_cases c1 : heavyE l = true
  · rw [c1] at h1
    refine FC_intro hty Tryz.func3 rfl rfl rfl fun w0 => ?_
    repeat' (first | refine WL_call 0 rfl h1 rfl rfl rfl ?_ | refine WL_p hty rfl rfl ?_ | refine WL_nil ?_ | refine AC_seq ?_ | refine AC_region ?_ | refine AC_skip ?_ | refine AC_condT rfl ?_ | refine AC_condF rfl ?_ | refine AC_ret ?_ | refine WL_ung rfl rfl ?_ | refine WL_offT rfl rfl rfl ?_ | refine WL_offF rfl rfl rfl ?_ | refine WL_offU rfl rfl rfl ?_ | refine ends_bool rfl ?_ | refine WL_cmp rfl rfl rfl rfl (fun _ => ?_) (fun _ => ?_) | refine AC_cond rfl (fun _ => ?_) (fun _ => ?_))
    rfl
  have c1 : heavyE l = false := by simpa using c1
  rw [c1] at h1
  by_cases c2 : heavyT [t] = true
  · rw [c2] at h2
    refine FC_intro hty Tryz.func3 rfl rfl rfl fun w0 => ?_
    repeat' (first | refine WL_call 0 rfl h1 rfl rfl rfl ?_ | refine WL_call 0 rfl h2 rfl rfl rfl ?_ | refine WL_p hty rfl rfl ?_ | refine WL_nil ?_ | refine AC_seq ?_ | refine AC_region ?_ | refine AC_skip ?_ | refine AC_condT rfl ?_ | refine AC_condF rfl ?_ | refine AC_ret ?_ | refine WL_ung rfl rfl ?_ | refine WL_offT rfl rfl rfl ?_ | refine WL_offF rfl rfl rfl ?_ | refine WL_offU rfl rfl rfl ?_ | refine ends_bool rfl ?_ | refine WL_cmp rfl rfl rfl rfl (fun _ => ?_) (fun _ => ?_) | refine AC_cond rfl (fun _ => ?_) (fun _ => ?_))
    rfl
  have c2 : heavyT [t] = false := by simpa using c2
  rw [c2] at h2
  by_cases c3 : checkT t = 0
  case neg =>
    refine FC_intro hty Tryz.func3 rfl rfl rfl fun w0 => ?_
    repeat' (first | exact absurd (by assumption) c3 | exact absurd c3 ‹_› | refine WL_call 0 rfl h1 rfl rfl rfl ?_ | refine WL_call 0 rfl h2 rfl rfl rfl ?_ | refine WL_call 0 rfl h3 rfl rfl rfl ?_ | refine WL_p hty rfl rfl ?_ | refine WL_nil ?_ | refine AC_seq ?_ | refine AC_region ?_ | refine AC_skip ?_ | refine AC_condT rfl ?_ | refine AC_condF rfl ?_ | refine AC_ret ?_ | refine WL_ung rfl rfl ?_ | refine WL_offT rfl rfl rfl ?_ | refine WL_offF rfl rfl rfl ?_ | refine WL_offU rfl rfl rfl ?_ | refine ends_bool rfl ?_ | refine WL_cmp rfl rfl rfl rfl (fun _ => ?_) (fun _ => ?_) | refine AC_cond rfl (fun _ => ?_) (fun _ => ?_))
    all_goals rfl
  rw [c3] at h3
  have hsz : t.size ≤ 1000000 := by
    obtain ⟨q, _, _⟩ := checkT_ok c3
    omega
  have hr := root0_spec t hsz true 0
  have hi := is0_spec t hsz true 0
  have hz := kterm_zero true
  have hw := wakes_spec
  rcases still0 t c3 with ⟨s1, s2⟩ | ⟨s1, s2⟩
  · rw [s1] at hi
    generalize root0 t = rr at hr s2
    obtain ⟨x, e⟩ := rr
    replace s2 : e ≠ 10 := s2
    refine FC_intro hty Tryz.func3 rfl rfl rfl fun w0 => ?_
    repeat' (first | exact absurd rfl ‹_› | exact absurd s2 (by assumption) | refine WL_call 0 rfl h1 rfl rfl rfl ?_ | refine WL_call 0 rfl h2 rfl rfl rfl ?_ | refine WL_call 0 rfl h3 rfl rfl rfl ?_ | refine WL_call 0 rfl (isM_spec l t (by omega) (by omega) (by simp [mades, *])) rfl rfl rfl ?_ | (refine AC_region (id := 4) ?_; refine WL_less (less_sub (l := [(1, _), (2, _), (5, _)]) (bl := [(2, _)]) ⟨⟨_, rfl, .inl ⟨.refl _, rfl⟩⟩, ⟨_, rfl, .inl ⟨.refl _, rfl⟩⟩, ⟨_, rfl, .inl ⟨.refl _, rfl⟩⟩, trivial⟩ ⟨⟨⟨_, rfl, .refl _⟩, rfl⟩, trivial⟩) ?_) | (refine AC_region (id := 6) ?_; refine WL_less (less_sub (l := [(2, _)]) (bl := [(2, _)]) ⟨⟨_, rfl, .inl ⟨.refl _, rfl⟩⟩, trivial⟩ ⟨⟨⟨_, rfl, .refl _⟩, rfl⟩, trivial⟩) ?_) | refine WL_call 0 rfl hr rfl rfl rfl ?_ | refine WL_call 0 rfl hi rfl rfl rfl ?_ | refine WL_call 0 rfl hw rfl rfl rfl ?_ | refine WL_m rfl (m_eqB hboolS rfl rfl rfl) ?_ | refine WL_p hty rfl rfl ?_ | refine WL_nil ?_ | refine AC_seq ?_ | refine AC_region ?_ | refine AC_skip ?_ | refine AC_condT rfl ?_ | refine AC_condF rfl ?_ | refine AC_ret ?_ | refine WL_ung rfl rfl ?_ | refine WL_offT rfl rfl rfl ?_ | refine WL_offF rfl rfl rfl ?_ | refine WL_offU rfl rfl rfl ?_ | refine ends_bool rfl ?_ | refine WL_cmp rfl rfl rfl rfl (fun _ => ?_) (fun _ => ?_) | refine AC_cond rfl (fun _ => ?_) (fun _ => ?_))
    all_goals rfl
  · rw [s1] at hi
    rw [s2] at hr
    refine FC_intro hty Tryz.func3 rfl rfl rfl fun w0 => ?_
    repeat' (first | exact absurd rfl ‹_› | refine WL_call 0 rfl h1 rfl rfl rfl ?_ | refine WL_call 0 rfl h2 rfl rfl rfl ?_ | refine WL_call 0 rfl h3 rfl rfl rfl ?_ | refine WL_call 0 rfl (isM_spec l t (by omega) (by omega) (by simp [mades, *])) rfl rfl rfl ?_ | (refine AC_region (id := 4) ?_; refine WL_less (less_sub (l := [(1, _), (2, _), (5, _)]) (bl := [(2, _)]) ⟨⟨_, rfl, .inl ⟨.refl _, rfl⟩⟩, ⟨_, rfl, .inl ⟨.refl _, rfl⟩⟩, ⟨_, rfl, .inl ⟨.refl _, rfl⟩⟩, trivial⟩ ⟨⟨⟨_, rfl, .refl _⟩, rfl⟩, trivial⟩) ?_) | (refine AC_region (id := 6) ?_; refine WL_less (less_sub (l := [(2, _)]) (bl := [(2, _)]) ⟨⟨_, rfl, .inl ⟨.refl _, rfl⟩⟩, trivial⟩ ⟨⟨⟨_, rfl, .refl _⟩, rfl⟩, trivial⟩) ?_) | refine WL_call 0 rfl hr rfl rfl rfl ?_ | refine WL_call 0 rfl hi rfl rfl rfl ?_ | refine WL_call 0 rfl hw rfl rfl rfl ?_ | refine WL_call 0 rfl hz rfl rfl rfl ?_ | refine WL_m rfl (m_eqB hboolS rfl rfl rfl) ?_ | refine WL_p hty rfl rfl ?_ | refine WL_nil ?_ | refine AC_seq ?_ | refine AC_region ?_ | refine AC_skip ?_ | refine AC_condT rfl ?_ | refine AC_condF rfl ?_ | refine AC_ret ?_ | refine WL_ung rfl rfl ?_ | refine WL_offT rfl rfl rfl ?_ | refine WL_offF rfl rfl rfl ?_ | refine WL_offU rfl rfl rfl ?_ | refine ends_bool rfl ?_ | refine WL_cmp rfl rfl rfl rfl (fun _ => ?_) (fun _ => ?_) | refine AC_cond rfl (fun _ => ?_) (fun _ => ?_))
    all_goals rfl

end Go.Proofs.YtlonpgdnmngnmaaGreat
