/-
  Codes spelled as a block's constructor, to weigh them.
-/
import Derived.Test.YtgjoeoojplbhpaaSteps
import Derived.Test.YtgjoeoojplbhpaaAw24
namespace Go.Proofs.Ytgjoeoojplbhpaa
set_option linter.unusedSimpArgs false
set_option linter.unusedVariables false
open Go.Aw Go.RowKit
attribute [local irreducible] WL AC WD MStep OkOp

def spA (x : Cd) : Ar := ⟨false, x.typ, x.dom, 0, x.idx ++ [x.dec]⟩
def spellC (l : List Cd) : Cn := ⟨0, l.map spA, [], zT⟩
theorem spell_sizes (l : List Cd) : sizesA (l.map spA) = sizesD l := by
  induction l with
  | nil => rfl
  | cons a l ih => simp only [List.map_cons, sizesA, sizesD, ih, spA, Ar.size, Cd.size, sizes_append, sizes]; omega
theorem spell_size (l : List Cd) : (spellC l).size = sizesD l + 1 := by
  simp only [spellC, Cn.size, spell_sizes, sizes, zT, Tm.size]

def mkP (l : List Cd) (A : List Ar) (j : Nat) : AS := match A with
  | [] => ⟨envOf [(0, sD l), (2, .ptr 2 0), (3, .ptr 3 0), (4, .int .i64 (j : Nat))],
      bkOf [(2, .box [.int .i64 0, .lst 7 [] true, .lst 3 [] true, .int .i64 0, .int .i64 0, .lst 3 [] true]), (3, .box [.int .i64 0, .lst 7 [] true, .lst 3 [] true, .int .i64 0, .int .i64 0, .lst 3 [] true])]⟩
  | a :: r => ⟨envOf [(0, sD l), (2, .ptr 2 0), (3, .ptr 3 0), (4, .int .i64 (j : Nat))],
      bkOf [(2, .box [.int .i64 0, .lst 7 [] true, .lst 3 [] true, .int .i64 0, .int .i64 0, .lst 3 [] true]), (3, .box [.int .i64 0, .arr 2003, .lst 3 [] true, .int .i64 0, .int .i64 0, .lst 3 [] true]), (2003, .arr 53 7 (rsA (a :: r)) false)]⟩

theorem take_map_succ {l : List Cd} {j : Nat} {x : Cd} (hx : l[j]? = some x) : (l.take (j + 1)).map spA = (l.take j).map spA ++ [spA x] := by
  rw [List.take_add_one, hx, Option.toList_some, List.map_append]; rfl

set_option maxHeartbeats 4000000 in
theorem spell_spec (l : List Cd) (hs : sizesD l ≤ 1048576) : FC Try.prog 9 [sD l] (aC (spellC l)) := by
  have hlen := len_le_sizesD l
  refine FC_intro hty Try.func9 rfl rfl rfl fun w0 => ?_
  repeat' (first
    | refine WL_p hty rfl rfl ?_
    | refine WL_nil ?_
    | refine AC_seq ?_
    | refine AC_region ?_
    | refine AC_block ?_
    | refine AC_skip ?_
    | refine AC_condT rfl ?_
    | refine AC_condF rfl ?_
    | refine AC_exit ?_
    | refine AC_ret ?_
    | refine WL_ung rfl rfl ?_
    | refine WL_offT rfl rfl rfl ?_
    | refine WL_offF rfl rfl rfl ?_
    | refine WL_offU rfl rfl rfl ?_
    | refine WL_m rfl (m_idxN hty rfl rfl rfl (by assumption) rfl) ?_
    | refine ends_bool rfl ?_
    | refine WL_cmp rfl rfl rfl rfl (fun _ => ?_) (fun _ => ?_)
    | refine AC_cond rfl (fun _ => ?_) (fun _ => ?_))
  refine AC_for l.length (fun _ => True) (fun j => mkP l ((l.take j).map spA) j) (less_sub ⟨⟨_, rfl, .inl ⟨.refl _, rfl⟩⟩, ⟨_, rfl, .inl ⟨.refl _, rfl⟩⟩, ⟨_, rfl, .inl ⟨.refl _, rfl⟩⟩, ⟨_, rfl, .inl ⟨.refl _, rfl⟩⟩, trivial⟩ ⟨⟨⟨_, rfl, .refl _⟩, rfl⟩, ⟨⟨_, rfl, .refl _⟩, rfl⟩, trivial⟩) trivial ?_
  intro j hj _
  generalize hA : (l.take j).map spA = A
  have hAl : A.length = j := by rw [← hA, List.length_map, List.length_take]; omega
  cases A with
  | nil =>
    repeat' (first
      | refine WL_p hty rfl rfl ?_
      | refine WL_nil ?_
      | refine AC_seq ?_
      | refine AC_region ?_
      | refine AC_block ?_
      | refine AC_skip ?_
      | refine AC_condT rfl ?_
      | refine AC_condF rfl ?_
      | refine AC_exit ?_
      | refine AC_ret ?_
      | refine WL_ung rfl rfl ?_
      | refine WL_offT rfl rfl rfl ?_
      | refine WL_offF rfl rfl rfl ?_
      | refine WL_offU rfl rfl rfl ?_
      | refine WL_m rfl (m_idxN hty rfl rfl rfl (by assumption) rfl) ?_
      | refine ends_bool rfl ?_)
    refine WL_cmp rfl rfl rfl rfl (fun hc => ?_) (fun hc => ?_)
    · have hlt : j < l.length := by rw [rsD_length] at hc; omega
      obtain ⟨x, hx, hmem⟩ := get_of_lt hlt
      have hxs := size_le_sizesD hmem
      unfold Cd.size at hxs
      have hxl := len_le_sizes x.idx
      have rx := rsD_get hx
      have hfin := take_map_succ hx
      rw [hA] at hfin
      obtain ⟨xk, xt, xd, xs, xi, xe⟩ := x
      cases xi with
      | nil =>
        repeat' (first
          | refine WD_cons (.inl ⟨rfl, m_bld hty rfl rfl rfl⟩) ?_
          | refine WD_cons (.inl ⟨rfl, m_app0 hty rfl rfl rfl rfl rfl rfl rfl⟩) ?_
          | refine WD_cons (.inl ⟨rfl, m_appA (es := 3) hty 1036 rfl rfl rfl rfl rfl rfl rfl rfl (List.cons_ne_nil _ _) (by simp [rsT_length] at *; omega) rfl rfl rfl⟩) ?_
          | refine WD_cons (.inl ⟨rfl, m_appFz (es := 3) hty 1029 rfl rfl rfl rfl rfl rfl rfl (List.cons_ne_nil _ _) (by simp [rsT_length] at *; try omega) rfl rfl rfl⟩) ?_
          | refine WD_cons (.inl ⟨rfl, m_appFz (es := 7) hty 2003 rfl rfl rfl rfl rfl rfl rfl (List.cons_ne_nil _ _) (Nat.le_of_ble_eq_true rfl) rfl rfl rfl⟩) ?_
          | refine AC_drawn [[], [0], [], [], [2, 3], [2, 3, 4], [2, 3, 4, 5], [], [], [7, 8], [7, 8, 9], [7, 8, 9, 10], [], [], [], [13, 14], [13, 14, 15], [13, 14, 15, 16], [12, 13, 14, 15, 16, 17], [], [], [19, 20], [19, 20, 21], [19, 20, 21, 22], [19, 20, 21, 22, 23], [12, 13, 14, 15, 16, 17, 18, 19, 20, 21, 22, 23, 24], [2, 3, 4, 5, 6, 7, 8, 9, 10, 11, 12, 13, 14, 15, 16, 17, 18, 19, 20, 21, 22, 23, 24, 25], [2, 3, 4, 5, 6, 7, 8, 9, 10, 11, 12, 13, 14, 15, 16, 17, 18, 19, 20, 21, 22, 23, 24, 25, 26], [0, 1, 2, 3, 4, 5, 6, 7, 8, 9, 10, 11, 12, 13, 14, 15, 16, 17, 18, 19, 20, 21, 22, 23, 24, 25, 26, 27], [0, 1, 2, 3, 4, 5, 6, 7, 8, 9, 10, 11, 12, 13, 14, 15, 16, 17, 18, 19, 20, 21, 22, 23, 24, 25, 26, 27, 28], [0, 1, 2, 3, 4, 5, 6, 7, 8, 9, 10, 11, 12, 13, 14, 15, 16, 17, 18, 19, 20, 21, 22, 23, 24, 25, 26, 27, 28, 29]] rfl rfl ?_
          | refine WD_cons (.inl ⟨rfl, stepE_ok hty rfl rfl⟩) ?_
          | refine WD_cons (.inl ⟨rfl, m_idxN hty rfl rfl rfl (by assumption) rfl⟩) ?_
          | refine WD_ung rfl rfl ?_
          | refine WD_offT rfl rfl rfl ?_
          | refine WD_offF rfl rfl rfl ?_
          | refine WD_offU rfl rfl rfl ?_
          | refine WD_nil ⟨by kernel_rfl, ?_⟩
          | refine WL_p hty rfl rfl ?_
          | refine WL_nil ?_
          | refine AC_seq ?_
          | refine AC_region ?_
          | refine AC_block ?_
          | refine AC_skip ?_
          | refine AC_condT rfl ?_
          | refine AC_condF rfl ?_
          | refine AC_exit ?_
          | refine AC_ret ?_
          | refine WL_ung rfl rfl ?_
          | refine WL_offT rfl rfl rfl ?_
          | refine WL_offF rfl rfl rfl ?_
          | refine WL_offU rfl rfl rfl ?_
          | refine WL_m rfl (m_idxN hty rfl rfl rfl (by assumption) rfl) ?_
          | refine ends_bool rfl ?_
          | refine WL_cmp rfl rfl rfl rfl (fun _ => ?_) (fun _ => ?_)
          | refine AC_cond rfl (fun _ => ?_) (fun _ => ?_))
        refine ⟨hlt, trivial, ?_⟩
        show Less _ (mkP l _ _)
        rw [hfin]
        refine (less_sub ⟨⟨_, rfl, .inl ⟨.refl _, rfl⟩⟩, ⟨_, rfl, .inl ⟨.refl _, rfl⟩⟩, ⟨_, rfl, .inl ⟨.refl _, rfl⟩⟩, ⟨_, rfl, see_eq ?_ rfl⟩, trivial⟩ ⟨⟨⟨_, rfl, .refl _⟩, rfl⟩, ⟨⟨_, rfl, .refl _⟩, rfl⟩, ⟨⟨_, rfl, ?_⟩, rfl⟩, trivial⟩)
        · exact congrArg (AV.int .i64) ((wrap_ok (by omega) (by omega)).trans (by omega))
        · exact .of_eq (by simp [rsA, spA, rsT_append, rT_eq, rsT])
      | cons t r =>
        repeat' (first
          | refine WD_cons (.inl ⟨rfl, m_bld hty rfl rfl rfl⟩) ?_
          | refine WD_cons (.inl ⟨rfl, m_app0 hty rfl rfl rfl rfl rfl rfl rfl⟩) ?_
          | refine WD_cons (.inl ⟨rfl, m_appA (es := 3) hty 1036 rfl rfl rfl rfl rfl rfl rfl rfl (List.cons_ne_nil _ _) (by simp [rsT_length] at *; omega) rfl rfl rfl⟩) ?_
          | refine WD_cons (.inl ⟨rfl, m_appFz (es := 3) hty 1029 rfl rfl rfl rfl rfl rfl rfl (List.cons_ne_nil _ _) (by simp [rsT_length] at *; try omega) rfl rfl rfl⟩) ?_
          | refine WD_cons (.inl ⟨rfl, m_appFz (es := 7) hty 2003 rfl rfl rfl rfl rfl rfl rfl (List.cons_ne_nil _ _) (Nat.le_of_ble_eq_true rfl) rfl rfl rfl⟩) ?_
          | refine AC_drawn [[], [0], [], [], [2, 3], [2, 3, 4], [2, 3, 4, 5], [], [], [7, 8], [7, 8, 9], [7, 8, 9, 10], [], [], [], [13, 14], [13, 14, 15], [13, 14, 15, 16], [12, 13, 14, 15, 16, 17], [], [], [19, 20], [19, 20, 21], [19, 20, 21, 22], [19, 20, 21, 22, 23], [12, 13, 14, 15, 16, 17, 18, 19, 20, 21, 22, 23, 24], [2, 3, 4, 5, 6, 7, 8, 9, 10, 11, 12, 13, 14, 15, 16, 17, 18, 19, 20, 21, 22, 23, 24, 25], [2, 3, 4, 5, 6, 7, 8, 9, 10, 11, 12, 13, 14, 15, 16, 17, 18, 19, 20, 21, 22, 23, 24, 25, 26], [0, 1, 2, 3, 4, 5, 6, 7, 8, 9, 10, 11, 12, 13, 14, 15, 16, 17, 18, 19, 20, 21, 22, 23, 24, 25, 26, 27], [0, 1, 2, 3, 4, 5, 6, 7, 8, 9, 10, 11, 12, 13, 14, 15, 16, 17, 18, 19, 20, 21, 22, 23, 24, 25, 26, 27, 28], [0, 1, 2, 3, 4, 5, 6, 7, 8, 9, 10, 11, 12, 13, 14, 15, 16, 17, 18, 19, 20, 21, 22, 23, 24, 25, 26, 27, 28, 29]] rfl rfl ?_
          | refine WD_cons (.inl ⟨rfl, stepE_ok hty rfl rfl⟩) ?_
          | refine WD_cons (.inl ⟨rfl, m_idxN hty rfl rfl rfl (by assumption) rfl⟩) ?_
          | refine WD_ung rfl rfl ?_
          | refine WD_offT rfl rfl rfl ?_
          | refine WD_offF rfl rfl rfl ?_
          | refine WD_offU rfl rfl rfl ?_
          | refine WD_nil ⟨by kernel_rfl, ?_⟩
          | refine WL_p hty rfl rfl ?_
          | refine WL_nil ?_
          | refine AC_seq ?_
          | refine AC_region ?_
          | refine AC_block ?_
          | refine AC_skip ?_
          | refine AC_condT rfl ?_
          | refine AC_condF rfl ?_
          | refine AC_exit ?_
          | refine AC_ret ?_
          | refine WL_ung rfl rfl ?_
          | refine WL_offT rfl rfl rfl ?_
          | refine WL_offF rfl rfl rfl ?_
          | refine WL_offU rfl rfl rfl ?_
          | refine WL_m rfl (m_idxN hty rfl rfl rfl (by assumption) rfl) ?_
          | refine ends_bool rfl ?_
          | refine WL_cmp rfl rfl rfl rfl (fun _ => ?_) (fun _ => ?_)
          | refine AC_cond rfl (fun _ => ?_) (fun _ => ?_))
        refine ⟨hlt, trivial, ?_⟩
        show Less _ (mkP l _ _)
        rw [hfin]
        refine (less_sub ⟨⟨_, rfl, .inl ⟨.refl _, rfl⟩⟩, ⟨_, rfl, .inl ⟨.refl _, rfl⟩⟩, ⟨_, rfl, .inl ⟨.refl _, rfl⟩⟩, ⟨_, rfl, see_eq ?_ rfl⟩, trivial⟩ ⟨⟨⟨_, rfl, .refl _⟩, rfl⟩, ⟨⟨_, rfl, .refl _⟩, rfl⟩, ⟨⟨_, rfl, ?_⟩, rfl⟩, trivial⟩)
        · exact congrArg (AV.int .i64) ((wrap_ok (by omega) (by omega)).trans (by omega))
        · exact .of_eq (by simp [rsA, spA, rsT_append, rT_eq, rsT])
    · obtain rfl : j = l.length := by rw [rsD_length] at hc; omega
      rw [List.take_length] at hA
      repeat' (first
        | refine WL_p hty rfl rfl ?_
        | refine WL_nil ?_
        | refine AC_seq ?_
        | refine AC_region ?_
        | refine AC_block ?_
        | refine AC_skip ?_
        | refine AC_condT rfl ?_
        | refine AC_condF rfl ?_
        | refine AC_exit ?_
        | refine AC_ret ?_
        | refine WL_ung rfl rfl ?_
        | refine WL_offT rfl rfl rfl ?_
        | refine WL_offF rfl rfl rfl ?_
        | refine WL_offU rfl rfl rfl ?_
        | refine WL_m rfl (m_idxN hty rfl rfl rfl (by assumption) rfl) ?_
        | refine ends_bool rfl ?_
        | refine WL_cmp rfl rfl rfl rfl (fun _ => ?_) (fun _ => ?_)
        | refine AC_cond rfl (fun _ => ?_) (fun _ => ?_))
      unfold spellC
      rw [hA]
      refine ends_wk rfl rfl (.agg ?_)
      repeat' (first | exact Wks.nil | refine Wks.cons (Wk.refl _) ?_ | refine Wks.cons (Wk.full _ _ _) ?_ | refine Wks.cons (Wk.nilF _ _ _) ?_)
  | cons a0 r0 =>
    repeat' (first
      | refine WL_p hty rfl rfl ?_
      | refine WL_nil ?_
      | refine AC_seq ?_
      | refine AC_region ?_
      | refine AC_block ?_
      | refine AC_skip ?_
      | refine AC_condT rfl ?_
      | refine AC_condF rfl ?_
      | refine AC_exit ?_
      | refine AC_ret ?_
      | refine WL_ung rfl rfl ?_
      | refine WL_offT rfl rfl rfl ?_
      | refine WL_offF rfl rfl rfl ?_
      | refine WL_offU rfl rfl rfl ?_
      | refine WL_m rfl (m_idxN hty rfl rfl rfl (by assumption) rfl) ?_
      | refine ends_bool rfl ?_)
    refine WL_cmp rfl rfl rfl rfl (fun hc => ?_) (fun hc => ?_)
    · have hlt : j < l.length := by rw [rsD_length] at hc; omega
      obtain ⟨x, hx, hmem⟩ := get_of_lt hlt
      have hxs := size_le_sizesD hmem
      unfold Cd.size at hxs
      have hxl := len_le_sizes x.idx
      have rx := rsD_get hx
      have hfin := take_map_succ hx
      rw [hA] at hfin
      have hroom : (rsA (a0 :: r0)).length + 1 ≤ 4194304 := by rw [rsA_length]; omega
      obtain ⟨xk, xt, xd, xs, xi, xe⟩ := x
      cases xi with
      | nil =>
        repeat' (first
          | refine WD_cons (.inl ⟨rfl, m_bld hty rfl rfl rfl⟩) ?_
          | refine WD_cons (.inl ⟨rfl, m_app0 hty rfl rfl rfl rfl rfl rfl rfl⟩) ?_
          | refine WD_cons (.inl ⟨rfl, m_appA (es := 3) hty 1036 rfl rfl rfl rfl rfl rfl rfl rfl (List.cons_ne_nil _ _) (by simp [rsT_length] at *; omega) rfl rfl rfl⟩) ?_
          | refine WD_cons (.inl ⟨rfl, m_appFz (es := 3) hty 1029 rfl rfl rfl rfl rfl rfl rfl (List.cons_ne_nil _ _) (by simp [rsT_length] at *; try omega) rfl rfl rfl⟩) ?_
          | refine WD_cons (.inl ⟨rfl, m_appA (es := 7) hty 3003 rfl rfl rfl rfl rfl rfl rfl rfl (List.cons_ne_nil _ _) hroom rfl rfl rfl⟩) ?_
          | refine AC_drawn [[], [0], [], [], [2, 3], [2, 3, 4], [2, 3, 4, 5], [], [], [7, 8], [7, 8, 9], [7, 8, 9, 10], [], [], [], [13, 14], [13, 14, 15], [13, 14, 15, 16], [12, 13, 14, 15, 16, 17], [], [], [19, 20], [19, 20, 21], [19, 20, 21, 22], [19, 20, 21, 22, 23], [12, 13, 14, 15, 16, 17, 18, 19, 20, 21, 22, 23, 24], [2, 3, 4, 5, 6, 7, 8, 9, 10, 11, 12, 13, 14, 15, 16, 17, 18, 19, 20, 21, 22, 23, 24, 25], [2, 3, 4, 5, 6, 7, 8, 9, 10, 11, 12, 13, 14, 15, 16, 17, 18, 19, 20, 21, 22, 23, 24, 25, 26], [0, 1, 2, 3, 4, 5, 6, 7, 8, 9, 10, 11, 12, 13, 14, 15, 16, 17, 18, 19, 20, 21, 22, 23, 24, 25, 26, 27], [0, 1, 2, 3, 4, 5, 6, 7, 8, 9, 10, 11, 12, 13, 14, 15, 16, 17, 18, 19, 20, 21, 22, 23, 24, 25, 26, 27, 28], [0, 1, 2, 3, 4, 5, 6, 7, 8, 9, 10, 11, 12, 13, 14, 15, 16, 17, 18, 19, 20, 21, 22, 23, 24, 25, 26, 27, 28, 29]] rfl rfl ?_
          | refine WD_cons (.inl ⟨rfl, stepE_ok hty rfl rfl⟩) ?_
          | refine WD_cons (.inl ⟨rfl, m_idxN hty rfl rfl rfl (by assumption) rfl⟩) ?_
          | refine WD_ung rfl rfl ?_
          | refine WD_offT rfl rfl rfl ?_
          | refine WD_offF rfl rfl rfl ?_
          | refine WD_offU rfl rfl rfl ?_
          | refine WD_nil ⟨by kernel_rfl, ?_⟩
          | refine WL_p hty rfl rfl ?_
          | refine WL_nil ?_
          | refine AC_seq ?_
          | refine AC_region ?_
          | refine AC_block ?_
          | refine AC_skip ?_
          | refine AC_condT rfl ?_
          | refine AC_condF rfl ?_
          | refine AC_exit ?_
          | refine AC_ret ?_
          | refine WL_ung rfl rfl ?_
          | refine WL_offT rfl rfl rfl ?_
          | refine WL_offF rfl rfl rfl ?_
          | refine WL_offU rfl rfl rfl ?_
          | refine WL_m rfl (m_idxN hty rfl rfl rfl (by assumption) rfl) ?_
          | refine ends_bool rfl ?_
          | refine WL_cmp rfl rfl rfl rfl (fun _ => ?_) (fun _ => ?_)
          | refine AC_cond rfl (fun _ => ?_) (fun _ => ?_))
        refine ⟨hlt, trivial, ?_⟩
        show Less _ (mkP l _ _)
        rw [hfin]
        refine (less_ren [(2003, 3003)] rfl ⟨⟨_, rfl, .inl ⟨.refl _, rfl⟩⟩, ⟨_, rfl, .inl ⟨.refl _, rfl⟩⟩, ⟨_, rfl, .inl ⟨.refl _, rfl⟩⟩, ⟨_, rfl, see_eq ?_ rfl⟩, trivial⟩ ⟨⟨⟨_, rfl, .refl _⟩, rfl⟩, ⟨⟨_, rfl, .refl _⟩, rfl⟩, ⟨⟨_, rfl, ?_⟩, rfl⟩, trivial⟩)
        · exact congrArg (AV.int .i64) ((wrap_ok (by omega) (by omega)).trans (by omega))
        · exact .of_eq (by show AB.arr _ _ _ _ = AB.arr _ _ _ _; simp [List.append_eq, rsA_append, rsA, spA, rsT_append, rT_eq, rsT])
      | cons t r =>
        repeat' (first
          | refine WD_cons (.inl ⟨rfl, m_bld hty rfl rfl rfl⟩) ?_
          | refine WD_cons (.inl ⟨rfl, m_app0 hty rfl rfl rfl rfl rfl rfl rfl⟩) ?_
          | refine WD_cons (.inl ⟨rfl, m_appA (es := 3) hty 1036 rfl rfl rfl rfl rfl rfl rfl rfl (List.cons_ne_nil _ _) (by simp [rsT_length] at *; omega) rfl rfl rfl⟩) ?_
          | refine WD_cons (.inl ⟨rfl, m_appFz (es := 3) hty 1029 rfl rfl rfl rfl rfl rfl rfl (List.cons_ne_nil _ _) (by simp [rsT_length] at *; try omega) rfl rfl rfl⟩) ?_
          | refine WD_cons (.inl ⟨rfl, m_appA (es := 7) hty 3003 rfl rfl rfl rfl rfl rfl rfl rfl (List.cons_ne_nil _ _) hroom rfl rfl rfl⟩) ?_
          | refine AC_drawn [[], [0], [], [], [2, 3], [2, 3, 4], [2, 3, 4, 5], [], [], [7, 8], [7, 8, 9], [7, 8, 9, 10], [], [], [], [13, 14], [13, 14, 15], [13, 14, 15, 16], [12, 13, 14, 15, 16, 17], [], [], [19, 20], [19, 20, 21], [19, 20, 21, 22], [19, 20, 21, 22, 23], [12, 13, 14, 15, 16, 17, 18, 19, 20, 21, 22, 23, 24], [2, 3, 4, 5, 6, 7, 8, 9, 10, 11, 12, 13, 14, 15, 16, 17, 18, 19, 20, 21, 22, 23, 24, 25], [2, 3, 4, 5, 6, 7, 8, 9, 10, 11, 12, 13, 14, 15, 16, 17, 18, 19, 20, 21, 22, 23, 24, 25, 26], [0, 1, 2, 3, 4, 5, 6, 7, 8, 9, 10, 11, 12, 13, 14, 15, 16, 17, 18, 19, 20, 21, 22, 23, 24, 25, 26, 27], [0, 1, 2, 3, 4, 5, 6, 7, 8, 9, 10, 11, 12, 13, 14, 15, 16, 17, 18, 19, 20, 21, 22, 23, 24, 25, 26, 27, 28], [0, 1, 2, 3, 4, 5, 6, 7, 8, 9, 10, 11, 12, 13, 14, 15, 16, 17, 18, 19, 20, 21, 22, 23, 24, 25, 26, 27, 28, 29]] rfl rfl ?_
          | refine WD_cons (.inl ⟨rfl, stepE_ok hty rfl rfl⟩) ?_
          | refine WD_cons (.inl ⟨rfl, m_idxN hty rfl rfl rfl (by assumption) rfl⟩) ?_
          | refine WD_ung rfl rfl ?_
          | refine WD_offT rfl rfl rfl ?_
          | refine WD_offF rfl rfl rfl ?_
          | refine WD_offU rfl rfl rfl ?_
          | refine WD_nil ⟨by kernel_rfl, ?_⟩
          | refine WL_p hty rfl rfl ?_
          | refine WL_nil ?_
          | refine AC_seq ?_
          | refine AC_region ?_
          | refine AC_block ?_
          | refine AC_skip ?_
          | refine AC_condT rfl ?_
          | refine AC_condF rfl ?_
          | refine AC_exit ?_
          | refine AC_ret ?_
          | refine WL_ung rfl rfl ?_
          | refine WL_offT rfl rfl rfl ?_
          | refine WL_offF rfl rfl rfl ?_
          | refine WL_offU rfl rfl rfl ?_
          | refine WL_m rfl (m_idxN hty rfl rfl rfl (by assumption) rfl) ?_
          | refine ends_bool rfl ?_
          | refine WL_cmp rfl rfl rfl rfl (fun _ => ?_) (fun _ => ?_)
          | refine AC_cond rfl (fun _ => ?_) (fun _ => ?_))
        refine ⟨hlt, trivial, ?_⟩
        show Less _ (mkP l _ _)
        rw [hfin]
        refine (less_ren [(2003, 3003)] rfl ⟨⟨_, rfl, .inl ⟨.refl _, rfl⟩⟩, ⟨_, rfl, .inl ⟨.refl _, rfl⟩⟩, ⟨_, rfl, .inl ⟨.refl _, rfl⟩⟩, ⟨_, rfl, see_eq ?_ rfl⟩, trivial⟩ ⟨⟨⟨_, rfl, .refl _⟩, rfl⟩, ⟨⟨_, rfl, .refl _⟩, rfl⟩, ⟨⟨_, rfl, ?_⟩, rfl⟩, trivial⟩)
        · exact congrArg (AV.int .i64) ((wrap_ok (by omega) (by omega)).trans (by omega))
        · exact .of_eq (by show AB.arr _ _ _ _ = AB.arr _ _ _ _; simp [List.append_eq, rsA_append, rsA, spA, rsT_append, rT_eq, rsT])
    · obtain rfl : j = l.length := by rw [rsD_length] at hc; omega
      rw [List.take_length] at hA
      repeat' (first
        | refine WL_p hty rfl rfl ?_
        | refine WL_nil ?_
        | refine AC_seq ?_
        | refine AC_region ?_
        | refine AC_block ?_
        | refine AC_skip ?_
        | refine AC_condT rfl ?_
        | refine AC_condF rfl ?_
        | refine AC_exit ?_
        | refine AC_ret ?_
        | refine WL_ung rfl rfl ?_
        | refine WL_offT rfl rfl rfl ?_
        | refine WL_offF rfl rfl rfl ?_
        | refine WL_offU rfl rfl rfl ?_
        | refine WL_m rfl (m_idxN hty rfl rfl rfl (by assumption) rfl) ?_
        | refine ends_bool rfl ?_
        | refine WL_cmp rfl rfl rfl rfl (fun _ => ?_) (fun _ => ?_)
        | refine AC_cond rfl (fun _ => ?_) (fun _ => ?_))
      unfold spellC
      rw [hA]
      refine ends_wk rfl rfl (.agg ?_)
      repeat' (first | exact Wks.nil | refine Wks.cons (Wk.refl _) ?_ | refine Wks.cons (Wk.full _ _ _) ?_ | refine Wks.cons (Wk.nilF _ _ _) ?_)
end Go.Proofs.Ytgjoeoojplbhpaa
