/-
  Arguments, constructors, blocks, entries are told anew by the document's side: the same, in memory of their own.
-/
import Derived.Test.YtlonpgdnmngnmaaGreatGI
import Derived.Test.YtlonpgdnmngnmaaGreatGC
import Derived.Test.YtlonpgdnmngnmaaGreatGB
namespace Go.Proofs.YtlonpgdnmngnmaaGreat
set_option linter.unusedSimpArgs false
set_option linter.unusedVariables false
open Go.Aw Go.RowKit
def tbKTwinB78_6 : List (Nat × List Nat) := [(0, []), (1, [0]), (2, [0, 1]), (3, []), (4, [3]), (5, [0, 1, 2, 3, 4]), (6, []), (7, [6]), (8, [0, 1, 2, 3, 4, 5, 6, 7]), (9, [0, 1, 2, 3, 4, 6, 7]), (10, [0, 1, 2, 3, 4, 5, 6, 7, 8, 9]), (11, [0, 1, 2, 3, 4, 5, 6, 7, 8, 9, 10]), (12, [0, 1, 2, 3, 4, 5, 6, 7, 8, 9, 10, 11]), (13, [0, 1, 2, 3, 4, 5, 6, 7, 8, 9, 10, 11, 12]), (14, [0, 1, 2, 3, 4, 5, 6, 7, 8, 9, 10, 11, 12, 13])]
def tbKTwinB79_1 : List (Nat × List Nat) := [(0, []), (1, [0]), (2, [0, 1]), (3, []), (4, [3]), (5, [0, 1, 2, 3, 4]), (6, []), (7, [6]), (8, [0, 1, 2, 3, 4, 5, 6, 7]), (9, [0, 1, 2, 3, 4, 6, 7]), (10, [0, 1, 2, 3, 4, 5, 6, 7, 8, 9]), (11, [0, 1, 2, 3, 4, 5, 6, 7, 8, 9, 10]), (12, [0, 1, 2, 3, 4, 5, 6, 7, 8, 9, 10, 11]), (13, [0, 1, 2, 3, 4, 5, 6, 7, 8, 9, 10, 11, 12]), (14, [0, 1, 2, 3, 4, 5, 6, 7, 8, 9, 10, 11, 12, 13])]
def tbKTwinB42_6 : List (Nat × List Nat) := [(0, []), (1, [0]), (2, [0, 1]), (3, []), (4, [3]), (5, [0, 1, 2, 3, 4]), (6, [0, 1, 2, 3, 4]), (7, [0, 1, 2, 3, 4, 5, 6]), (8, [0, 1, 2, 3, 4, 5, 6, 7]), (9, [0, 1, 2, 3, 4, 5, 6, 7, 8])]
def tbKTwinB42_11h0_104_2_104_3_104_4_104_5_104_6_104_7_104_8_104_10_104 : List (Nat × List Nat) := [(0, [100104]), (1, [0]), (2, [100104]), (3, [2, 100104]), (4, [100104]), (5, [2, 3, 4, 100104]), (6, [2, 3, 4, 5, 100104]), (7, [2, 3, 4, 5, 6, 100104]), (8, [2, 3, 4, 5, 6, 7, 100104]), (9, [0, 1, 2, 3, 4, 5, 6, 7, 8]), (10, [0, 1, 2, 3, 4, 5, 6, 7, 8, 9, 100104]), (11, [0, 1, 2, 3, 4, 5, 6, 7, 8, 9, 10])]
def tbKTwinB17_6 : List (Nat × List Nat) := [(0, []), (1, [0]), (2, [0, 1]), (3, []), (4, [3]), (5, [0, 1, 2, 3, 4]), (6, []), (7, [6]), (8, [0, 1, 2, 3, 4, 5, 6, 7]), (9, [0, 1, 2, 3, 4, 6, 7]), (10, [0, 1, 2, 3, 4, 5, 6, 7, 8, 9]), (11, [0, 1, 2, 3, 4, 5, 6, 7, 8, 9, 10]), (12, [0, 1, 2, 3, 4, 5, 6, 7, 8, 9, 10, 11]), (13, [0, 1, 2, 3, 4, 5, 6, 7, 8, 9, 10, 11, 12]), (14, [0, 1, 2, 3, 4, 5, 6, 7, 8, 9, 10, 11, 12, 13])]
attribute [local irreducible] WL AC WD WE MStep OkOp

theorem seenR {f : Nat} {args : List AV} {e es : Nat} {rows : List (List AV)} (h : FC Tryz.prog f args (ownR e es rows)) : FC Tryz.prog f args (.lst es rows false) := by
  cases rows with
  | nil => exact FC.weak rfl rfl (fun l => by simp [ownR]) (fun l => by simp) (.nilF _ _ _) h
  | cons r l => exact FC.seen h
theorem ktwinsL_spec (l : List Tm) (h : sizes l ≤ 1048576) : FC Tryz.prog 51 [sT l] (sT l) := seenR (ktwins_spec l h)
theorem rsA_next {l : List Ar} {i : Nat} {a : Ar} (h : l[i]? = some a) : rsA (l.take (i + 1)) = rsA (l.take i) ++ [cA a] := by
  rw [rsA_map, rsA_map, List.take_add_one, h, Option.toList_some, List.map_append]; rfl
theorem rsS_next {l : List Sr} {i : Nat} {a : Sr} (h : l[i]? = some a) : rsS (l.take (i + 1)) = rsS (l.take i) ++ [cS a] := by
  rw [rsS_map, rsS_map, List.take_add_one, h, Option.toList_some, List.map_append]; rfl
theorem rsC_next {l : List Cn} {i : Nat} {a : Cn} (h : l[i]? = some a) : rsC (l.take (i + 1)) = rsC (l.take i) ++ [cC a] := by
  rw [rsC_map, rsC_map, List.take_add_one, h, Option.toList_some, List.map_append]; rfl
theorem rsE_next {l : List En} {i : Nat} {a : En} (h : l[i]? = some a) : rsE (l.take (i + 1)) = rsE (l.take i) ++ [cE a] := by
  rw [rsE_map, rsE_map, List.take_add_one, h, Option.toList_some, List.map_append]; rfl

set_option maxHeartbeats 4000000 in
theorem ktwinArgs_spec (l : List Ar) (hl : sizesA l ≤ 1048576) : FC Tryz.prog 78 [sA l] (sA l) := by
  have hlen := len_le_sizesA l
  refine seenR (e := 111) ?_
  refine FC_intro hty Tryz.func78 rfl rfl rfl fun w0 => ?_
  repeat' (first | refine WL_p hty rfl rfl ?_ | refine WL_nil ?_ | refine AC_seq ?_ | refine AC_region ?_ | refine AC_block ?_ | refine AC_skip ?_ | refine AC_condT rfl ?_ | refine AC_condF rfl ?_ | refine AC_exit ?_ | refine AC_ret ?_ | refine WL_m rfl (m_idxN hty rfl rfl rfl (by assumption) rfl) ?_ | refine ends_bool rfl ?_ | refine WL_cmp rfl rfl rfl rfl (fun _ => ?_) (fun _ => ?_) | refine AC_cond rfl (fun _ => ?_) (fun _ => ?_))
  refine AC_less (less_gone 103 rfl) ?_
  refine AC_for l.length (fun _ => True) (fun i => ⟨envOf [(0, sA l), (3, grV 103 7 (rsA (l.take i))), (4, .int .i64 (i : Nat))], bkOf [(103, grB 111 7 (rsA (l.take i)))]⟩)
    (less_sub ⟨⟨_, rfl, .inl ⟨.refl _, rfl⟩⟩, ⟨_, rfl, .inl ⟨.nil _ _ _, rfl⟩⟩, ⟨_, rfl, .inl ⟨.refl _, rfl⟩⟩, trivial⟩ ⟨⟨⟨_, rfl, .refl _⟩, rfl⟩, trivial⟩) trivial ?_
  intro i hi _
  repeat' (first | refine WL_p hty rfl rfl ?_ | refine WL_nil ?_ | refine AC_seq ?_ | refine AC_region ?_ | refine AC_block ?_ | refine AC_skip ?_ | refine AC_condT rfl ?_ | refine AC_condF rfl ?_ | refine AC_exit ?_ | refine AC_ret ?_ | refine WL_m rfl (m_idxN hty rfl rfl rfl (by assumption) rfl) ?_ | refine ends_bool rfl ?_)
  refine WL_cmp rfl rfl rfl rfl (fun hc => ?_) (fun hc => ?_)
  · have hlt : i < l.length := by rw [rsA_length] at hc; omega
    obtain ⟨a, ha, hmem⟩ := get_of_lt hlt
    have ra := rsA_get ha
    have has := size_le_sizesA hmem
    unfold Ar.size at has
    have h1 := ktwin_spec a.typ (by omega)
    have h2 := ktwinsL_spec a.dom (by omega)
    have h3 := ktwinsL_spec a.idx (by omega)
    repeat' (first | (refine AC_regK (id := 6) ?_; refine AC_less (less_sub (l := [(0, _), (3, _), (4, _), (5, _)]) (bl := [(5, _), (103, _)]) ⟨⟨_, rfl, .inl ⟨.refl _, rfl⟩⟩, ⟨_, rfl, .inl ⟨.refl _, keep_gr rfl⟩⟩, ⟨_, rfl, .inl ⟨.refl _, rfl⟩⟩, ⟨_, rfl, .inl ⟨.refl _, rfl⟩⟩, trivial⟩ ⟨⟨⟨_, rfl, .refl _⟩, rfl⟩, ⟨⟨_, rfl, .refl _⟩, keepB_gr⟩, trivial⟩) ?_; refine AC_drawnE (id := 6) tbKTwinB78_6 rfl (by kernel_rfl) ?_) | refine WE_cons (.inl ⟨rfl, m_call 0 rfl h1 rfl rfl rfl⟩) ?_ | refine WE_cons (.inl ⟨rfl, m_call 0 rfl h2 rfl rfl rfl⟩) ?_ | refine WE_cons (.inl ⟨rfl, m_call 0 rfl h3 rfl rfl rfl⟩) ?_ | refine WL_m rfl (m_appG hty 303 rfl rfl rfl rfl rfl rfl rfl (by simp only [rsA_length, List.length_take, List.length_cons, List.length_nil]; omega) rfl rfl rfl) ?_ | refine WE_cons (.inl ⟨rfl, stepE_ok hty rfl rfl⟩) ?_ | refine WE_nil ⟨by kernel_rfl, ?_⟩ | refine WL_p hty rfl rfl ?_ | refine WL_nil ?_ | refine AC_seq ?_ | refine AC_region ?_ | refine AC_block ?_ | refine AC_skip ?_ | refine AC_condT rfl ?_ | refine AC_condF rfl ?_ | refine AC_exit ?_ | refine AC_ret ?_ | refine WL_m rfl (m_idxN hty rfl rfl rfl (by assumption) rfl) ?_ | refine ends_bool rfl ?_ | refine WL_cmp rfl rfl rfl rfl (fun _ => ?_) (fun _ => ?_) | refine AC_cond rfl (fun _ => ?_) (fun _ => ?_))
    have hnx := rsA_next ha
    refine ⟨hlt, trivial, (less_ren [(103, 303)] rfl ⟨⟨_, rfl, .inl ⟨.refl _, rfl⟩⟩, ⟨_, rfl, .inl ⟨wk_gr rfl ?_, keep_gr rfl⟩⟩, ⟨_, rfl, see_eq ?_ rfl⟩, trivial⟩ ⟨⟨⟨_, rfl, wkB_gr ?_⟩, keepB_gr⟩, trivial⟩)⟩
    · exact hnx.symm
    · exact congrArg (AV.int .i64) ((wrap_ok (by omega) (by omega)).trans (by omega))
    · exact hnx.symm
  · obtain rfl : i = l.length := by rw [rsA_length] at hc; omega
    repeat' (first | refine WL_p hty rfl rfl ?_ | refine WL_nil ?_ | refine AC_seq ?_ | refine AC_region ?_ | refine AC_block ?_ | refine AC_skip ?_ | refine AC_condT rfl ?_ | refine AC_condF rfl ?_ | refine AC_exit ?_ | refine AC_ret ?_ | refine WL_m rfl (m_idxN hty rfl rfl rfl (by assumption) rfl) ?_ | refine ends_bool rfl ?_ | refine WL_cmp rfl rfl rfl rfl (fun _ => ?_) (fun _ => ?_) | refine AC_cond rfl (fun _ => ?_) (fun _ => ?_))
    rw [List.take_length]
    show EndsAs _ _ (ownR 111 7 (rsA l)) _ _
    generalize rsA l = rs
    cases rs
    · exact ends_is rfl rfl rfl
    · exact ends_own rfl rfl rfl

set_option maxHeartbeats 4000000 in
theorem ktwinCon_spec (c : Cn) (hs : c.size ≤ 1048576) : FC Tryz.prog 79 [aC c] (aC c) := by
  unfold Cn.size at hs
  have h1 := ktwinArgs_spec c.args (by omega)
  have h2 := ktwinsL_spec c.idx (by omega)
  have h3 := ktwin_spec c.dec (by omega)
  refine FC_intro hty Tryz.func79 rfl rfl rfl fun w0 => ?_
  repeat' (first | (refine AC_regK (id := 1) ?_; refine AC_less (less_sub (l := [(1, _), (2, _)]) (bl := [(1, _), (2, _)]) ⟨⟨_, rfl, .inl ⟨.refl _, rfl⟩⟩, ⟨_, rfl, .inl ⟨.refl _, rfl⟩⟩, trivial⟩ ⟨⟨⟨_, rfl, .refl _⟩, rfl⟩, ⟨⟨_, rfl, .refl _⟩, rfl⟩, trivial⟩) ?_; refine AC_drawnE (id := 1) tbKTwinB79_1 rfl (by kernel_rfl) ?_) | refine WE_cons (.inl ⟨rfl, m_call 0 rfl h1 rfl rfl rfl⟩) ?_ | refine WE_cons (.inl ⟨rfl, m_call 0 rfl h2 rfl rfl rfl⟩) ?_ | refine WE_cons (.inl ⟨rfl, m_call 0 rfl h3 rfl rfl rfl⟩) ?_ | refine WE_cons (.inl ⟨rfl, stepE_ok hty rfl rfl⟩) ?_ | refine WE_nil ⟨by kernel_rfl, ?_⟩ | refine WL_p hty rfl rfl ?_ | refine WL_nil ?_ | refine AC_seq ?_ | refine AC_region ?_ | refine AC_skip ?_ | refine AC_ret ?_ | refine ends_bool rfl ?_)
  exact ends_wk rfl rfl (.refl _)

set_option maxHeartbeats 8000000 in
theorem ktwinBlock_spec (b : Bl) (hs : b.size ≤ 1048576) : FC Tryz.prog 42 [aB b] (aB b) := by
  unfold Bl.size at hs
  have hsl := len_le_sizesS b.sorts
  have hcl := len_le_sizesC b.cons
  refine FC_intro hty Tryz.func42 rfl rfl rfl fun w0 => ?_
  repeat' (first | refine WL_p hty rfl rfl ?_ | refine WL_nil ?_ | refine AC_seq ?_ | refine AC_region ?_ | refine AC_block ?_ | refine AC_skip ?_ | refine AC_condT rfl ?_ | refine AC_condF rfl ?_ | refine AC_exit ?_ | refine AC_ret ?_ | refine WL_m rfl (m_idxN hty rfl rfl rfl (by assumption) rfl) ?_ | refine ends_bool rfl ?_ | refine WL_cmp rfl rfl rfl rfl (fun _ => ?_) (fun _ => ?_) | refine AC_cond rfl (fun _ => ?_) (fun _ => ?_))
  refine AC_less (less_gone 103 rfl) ?_
  refine AC_for b.sorts.length (fun _ => True) (fun i => ⟨envOf [(1, .ptr 1 0), (2, .ptr 2 0), (3, .ptr 3 0), (4, .int .i64 (i : Nat))],
    bkOf [(1, .box (cB b)), (2, .box [.lst 6 [] true, .lst 6 [] true, .int .i64 0]), (3, .box [grV 103 6 (rsS (b.sorts.take i)), .lst 6 [] true, .int .i64 b.elim]), (103, grB 53 6 (rsS (b.sorts.take i)))]⟩)
    (less_sub ⟨⟨_, rfl, .inl ⟨.refl _, rfl⟩⟩, ⟨_, rfl, .inl ⟨.refl _, rfl⟩⟩, ⟨_, rfl, .inl ⟨.refl _, rfl⟩⟩, ⟨_, rfl, .inl ⟨.refl _, rfl⟩⟩, trivial⟩ ⟨⟨⟨_, rfl, .refl _⟩, rfl⟩, ⟨⟨_, rfl, .refl _⟩, rfl⟩, ⟨⟨_, rfl, .refl _⟩, rfl⟩, ⟨⟨_, rfl, .refl _⟩, rfl⟩, trivial⟩) trivial ?_
  intro i hi _
  repeat' (first | refine WL_p hty rfl rfl ?_ | refine WL_nil ?_ | refine AC_seq ?_ | refine AC_region ?_ | refine AC_block ?_ | refine AC_skip ?_ | refine AC_condT rfl ?_ | refine AC_condF rfl ?_ | refine AC_exit ?_ | refine AC_ret ?_ | refine WL_m rfl (m_idxN hty rfl rfl rfl (by assumption) rfl) ?_ | refine ends_bool rfl ?_)
  refine WL_cmp rfl rfl rfl rfl (fun hc => ?_) (fun hc => ?_)
  · have hlt : i < b.sorts.length := by rw [rsS_length] at hc; omega
    obtain ⟨s, hss, hmem⟩ := get_of_lt hlt
    have rs := rsS_get hss
    have has := size_le_sizesS hmem
    unfold Sr.size at has
    have h1 := ktwinArgs_spec s.idx (by omega)
    have h2 := ktwin_spec s.decT (by omega)
    have hnx := rsS_next hss
    rw [hnx]
    have hll : (rsS (b.sorts.take i)).length ≤ 1048576 := by rw [rsS_length, List.length_take]; omega
    generalize rsS (b.sorts.take i) = rr at hll ⊢
    repeat' (first | (refine AC_regK (id := 6) ?_; refine AC_less (less_sub (l := [(1, _), (2, _), (3, _), (4, _), (5, _)]) (bl := [(1, _), (2, _), (3, .box [grV 103 6 rr, .lst 6 [] true, .int .i64 b.elim]), (5, _), (103, _)]) ⟨⟨_, rfl, .inl ⟨.refl _, rfl⟩⟩, ⟨_, rfl, .inl ⟨.refl _, rfl⟩⟩, ⟨_, rfl, .inl ⟨.refl _, rfl⟩⟩, ⟨_, rfl, .inl ⟨.refl _, rfl⟩⟩, ⟨_, rfl, .inl ⟨.refl _, rfl⟩⟩, trivial⟩ ⟨⟨⟨_, rfl, .refl _⟩, rfl⟩, ⟨⟨_, rfl, .refl _⟩, rfl⟩, ⟨⟨_, rfl, .refl _⟩, by simp only [keepB, List.all_cons, List.all_nil]; rw [keepS_gr] <;> rfl⟩, ⟨⟨_, rfl, .refl _⟩, rfl⟩, ⟨⟨_, rfl, .refl _⟩, keepB_gr⟩, trivial⟩) ?_; refine AC_drawnE (id := 6) tbKTwinB42_6 rfl (by kernel_rfl) ?_) | refine WE_cons (.inl ⟨rfl, m_call 0 rfl h1 rfl rfl rfl⟩) ?_ | refine WE_cons (.inl ⟨rfl, m_call 0 rfl h2 rfl rfl rfl⟩) ?_ | refine WL_m rfl (m_appG hty 303 rfl rfl rfl rfl rfl rfl rfl (by simp only [List.length_cons, List.length_nil]; omega) rfl rfl rfl) ?_ | refine WL_m rfl (m_storeB hty rfl rfl rfl rfl cellsV_gr rfl rfl rfl) ?_ | refine WE_cons (.inl ⟨rfl, stepE_ok hty rfl rfl⟩) ?_ | refine WE_cons (.inl ⟨rfl, m_idxN hty rfl rfl rfl (by assumption) rfl⟩) ?_ | refine WE_nil ⟨by kernel_rfl, ?_⟩ | refine WL_p hty rfl rfl ?_ | refine WL_nil ?_ | refine AC_seq ?_ | refine AC_region ?_ | refine AC_block ?_ | refine AC_skip ?_ | refine AC_condT rfl ?_ | refine AC_condF rfl ?_ | refine AC_exit ?_ | refine AC_ret ?_ | refine WL_m rfl (m_idxN hty rfl rfl rfl (by assumption) rfl) ?_ | refine ends_bool rfl ?_ | refine WL_cmp rfl rfl rfl rfl (fun _ => ?_) (fun _ => ?_) | refine AC_cond rfl (fun _ => ?_) (fun _ => ?_))
    refine ⟨hlt, trivial, (less_ren [(103, 303)] rfl ⟨⟨_, rfl, .inl ⟨.refl _, rfl⟩⟩, ⟨_, rfl, .inl ⟨.refl _, rfl⟩⟩, ⟨_, rfl, .inl ⟨.refl _, rfl⟩⟩, ⟨_, rfl, see_eq ?_ rfl⟩, trivial⟩ ⟨⟨⟨_, rfl, .refl _⟩, rfl⟩, ⟨⟨_, rfl, .refl _⟩, rfl⟩, ?_, ⟨⟨_, rfl, wkB_gr ?_⟩, keepB_gr⟩, trivial⟩)⟩
    · exact congrArg (AV.int .i64) ((wrap_ok (by omega) (by omega)).trans (by omega))
    · exact ⟨⟨_, rfl, .box (.cons (wk_grS rfl rfl) (.cons (.refl _) (.cons (.refl _) .nil)))⟩, by simp only [keepB, List.all_cons, List.all_nil]; rw [keepS_gr] <;> rfl⟩
    · rfl
  · obtain rfl : i = b.sorts.length := by rw [rsS_length] at hc; omega
    rw [List.take_length]
    repeat' (first | refine WL_p hty rfl rfl ?_ | refine WL_nil ?_ | refine AC_seq ?_ | refine AC_region ?_ | refine AC_block ?_ | refine AC_skip ?_ | refine AC_condT rfl ?_ | refine AC_condF rfl ?_ | refine AC_exit ?_ | refine AC_ret ?_ | refine WL_m rfl (m_idxN hty rfl rfl rfl (by assumption) rfl) ?_ | refine ends_bool rfl ?_ | refine WL_cmp rfl rfl rfl rfl (fun _ => ?_) (fun _ => ?_) | refine AC_cond rfl (fun _ => ?_) (fun _ => ?_))
    refine AC_less (less_gone 104 rfl) ?_
    refine AC_for b.cons.length (fun _ => True) (fun i => ⟨envOf [(1, .ptr 1 0), (2, .ptr 2 0), (3, .ptr 3 0), (6, .int .i64 (i : Nat))],
      bkOf [(1, .box (cB b)), (2, .box [.lst 6 [] true, .lst 6 [] true, .int .i64 0]), (3, .box [grV 103 6 (rsS b.sorts), grV 104 6 (rsC (b.cons.take i)), .int .i64 b.elim]), (103, grB 53 6 (rsS b.sorts)), (104, grB 55 6 (rsC (b.cons.take i)))]⟩)
      (less_sub ⟨⟨_, rfl, .inl ⟨.refl _, rfl⟩⟩, ⟨_, rfl, .inl ⟨.refl _, rfl⟩⟩, ⟨_, rfl, .inl ⟨.refl _, rfl⟩⟩, ⟨_, rfl, .inl ⟨.refl _, rfl⟩⟩, trivial⟩ ⟨⟨⟨_, rfl, .refl _⟩, rfl⟩, ⟨⟨_, rfl, .refl _⟩, rfl⟩, ?_, ?_, ⟨⟨_, rfl, .refl _⟩, rfl⟩, trivial⟩) trivial ?_
    · exact ⟨⟨_, rfl, .refl _⟩, by simp only [keepB, List.all_cons, List.all_nil]; rw [keepS_gr] <;> rfl⟩
    · exact ⟨⟨_, rfl, .refl _⟩, keepB_gr⟩
    intro i hi _
    repeat' (first | refine WL_p hty rfl rfl ?_ | refine WL_nil ?_ | refine AC_seq ?_ | refine AC_region ?_ | refine AC_block ?_ | refine AC_skip ?_ | refine AC_condT rfl ?_ | refine AC_condF rfl ?_ | refine AC_exit ?_ | refine AC_ret ?_ | refine WL_m rfl (m_idxN hty rfl rfl rfl (by assumption) rfl) ?_ | refine ends_bool rfl ?_)
    refine WL_cmp rfl rfl rfl rfl (fun hc => ?_) (fun hc => ?_)
    · have hlt : i < b.cons.length := by rw [rsC_length] at hc; omega
      obtain ⟨c, hcc, hmem⟩ := get_of_lt hlt
      have rc := rsC_get hcc
      have has := size_le_sizesC hmem
      have h1 := ktwinCon_spec c (by omega)
      have hnx := rsC_next hcc
      rw [hnx]
      have hll : (rsC (b.cons.take i)).length ≤ 1048576 := by rw [rsC_length, List.length_take]; omega
      generalize rsC (b.cons.take i) = rr at hll ⊢
      generalize rsS b.sorts = r2
      repeat' (first | (refine AC_regK (id := 11) ?_; refine AC_less (less_sub (l := [(1, _), (2, _), (3, _), (6, _)]) (bl := [(1, _), (2, _), (3, .box [grV 103 6 r2, grV 104 6 rr, .int .i64 b.elim]), (103, _), (104, _)]) ⟨⟨_, rfl, .inl ⟨.refl _, rfl⟩⟩, ⟨_, rfl, .inl ⟨.refl _, rfl⟩⟩, ⟨_, rfl, .inl ⟨.refl _, rfl⟩⟩, ⟨_, rfl, .inl ⟨.refl _, rfl⟩⟩, trivial⟩ ⟨⟨⟨_, rfl, .refl _⟩, rfl⟩, ⟨⟨_, rfl, .refl _⟩, rfl⟩, ⟨⟨_, rfl, .refl _⟩, by simp only [keepB, List.all_cons, List.all_nil]; rw [keepS_gr, keepS_gr] <;> rfl⟩, ⟨⟨_, rfl, .refl _⟩, keepB_gr⟩, ⟨⟨_, rfl, .refl _⟩, keepB_gr⟩, trivial⟩) ?_; refine AC_drawnE (id := 11) tbKTwinB42_11h0_104_2_104_3_104_4_104_5_104_6_104_7_104_8_104_10_104 rfl (by kernel_rfl) ?_) | refine WE_cons (.inl ⟨rfl, m_call 0 rfl h1 rfl rfl rfl⟩) ?_ | refine WE_cons (.inl ⟨rfl, m_appG hty 304 rfl rfl rfl rfl rfl rfl rfl (by simp only [List.length_cons, List.length_nil]; omega) rfl rfl rfl⟩) ?_ | refine WE_cons (.inl ⟨rfl, m_storeB hty rfl rfl rfl rfl cellsV_gr rfl rfl rfl⟩) ?_ | refine WE_cons (.inl ⟨rfl, stepE_ok hty rfl rfl⟩) ?_ | refine WE_cons (.inl ⟨rfl, m_idxN hty rfl rfl rfl (by assumption) rfl⟩) ?_ | refine WE_nil ⟨by kernel_rfl, ?_⟩ | refine WL_p hty rfl rfl ?_ | refine WL_nil ?_ | refine AC_seq ?_ | refine AC_region ?_ | refine AC_block ?_ | refine AC_skip ?_ | refine AC_condT rfl ?_ | refine AC_condF rfl ?_ | refine AC_exit ?_ | refine AC_ret ?_ | refine WL_m rfl (m_idxN hty rfl rfl rfl (by assumption) rfl) ?_ | refine ends_bool rfl ?_ | refine WL_cmp rfl rfl rfl rfl (fun _ => ?_) (fun _ => ?_) | refine AC_cond rfl (fun _ => ?_) (fun _ => ?_))
      refine ⟨hlt, trivial, (less_ren [(104, 304)] rfl ⟨⟨_, rfl, .inl ⟨.refl _, rfl⟩⟩, ⟨_, rfl, .inl ⟨.refl _, rfl⟩⟩, ⟨_, rfl, .inl ⟨.refl _, rfl⟩⟩, ⟨_, rfl, see_eq ?_ rfl⟩, trivial⟩ ⟨⟨⟨_, rfl, .refl _⟩, rfl⟩, ⟨⟨_, rfl, .refl _⟩, rfl⟩, ?_, ?_, ⟨⟨_, rfl, wkB_gr ?_⟩, keepB_gr⟩, trivial⟩)⟩
      · exact congrArg (AV.int .i64) ((wrap_ok (by omega) (by omega)).trans (by omega))
      · exact ⟨⟨_, rfl, .box (.cons (wk_grS rfl rfl) (.cons (wk_grS rfl rfl) (.cons (.refl _) .nil)))⟩, by simp only [keepB, List.all_cons, List.all_nil]; rw [keepS_gr, keepS_gr] <;> rfl⟩
      · exact ⟨⟨_, rfl, wkB_gr rfl⟩, keepB_gr⟩
      · rfl
    · obtain rfl : i = b.cons.length := by rw [rsC_length] at hc; omega
      rw [List.take_length]
      repeat' (first | refine WL_p hty rfl rfl ?_ | refine WL_nil ?_ | refine AC_seq ?_ | refine AC_region ?_ | refine AC_block ?_ | refine AC_skip ?_ | refine AC_condT rfl ?_ | refine AC_condF rfl ?_ | refine AC_exit ?_ | refine AC_ret ?_ | refine WL_m rfl (m_idxN hty rfl rfl rfl (by assumption) rfl) ?_ | refine ends_bool rfl ?_ | refine WL_cmp rfl rfl rfl rfl (fun _ => ?_) (fun _ => ?_) | refine AC_cond rfl (fun _ => ?_) (fun _ => ?_))
      show EndsAs _ _ (.agg [.lst 6 (rsS b.sorts) false, .lst 6 (rsC b.cons) false, .int .i64 b.elim]) _ _
      generalize rsS b.sorts = r1
      generalize rsC b.cons = r2
      cases r1 <;> cases r2
      · exact ends_wk rfl rfl (.agg (.cons (.nilF _ _ _) (.cons (.nilF _ _ _) (.cons (.refl _) .nil))))
      · refine ends_less (less_freeze 104 rfl) ?_
        exact ends_wk rfl rfl (.agg (.cons (.nilF _ _ _) (.cons (.refl _) (.cons (.refl _) .nil))))
      · refine ends_less (less_freeze 103 rfl) ?_
        exact ends_wk rfl rfl (.agg (.cons (.refl _) (.cons (.nilF _ _ _) (.cons (.refl _) .nil))))
      · refine ends_less (less_freeze 103 rfl) (ends_less (less_freeze 104 rfl) ?_)
        exact ends_wk rfl rfl (.refl _)

set_option maxHeartbeats 4000000 in
theorem ktwinEntries_spec (l : List En) (hl : sizesE l ≤ 1048576) : FC Tryz.prog 17 [sE l] (ownR 45 12 (rsE l)) := by
  have hlen := len_le_sizesE l
  refine FC_intro hty Tryz.func17 rfl rfl rfl fun w0 => ?_
  repeat' (first | refine WL_p hty rfl rfl ?_ | refine WL_nil ?_ | refine AC_seq ?_ | refine AC_region ?_ | refine AC_block ?_ | refine AC_skip ?_ | refine AC_condT rfl ?_ | refine AC_condF rfl ?_ | refine AC_exit ?_ | refine AC_ret ?_ | refine WL_m rfl (m_idxN hty rfl rfl rfl (by assumption) rfl) ?_ | refine ends_bool rfl ?_ | refine WL_cmp rfl rfl rfl rfl (fun _ => ?_) (fun _ => ?_) | refine AC_cond rfl (fun _ => ?_) (fun _ => ?_))
  refine AC_less (less_gone 103 rfl) ?_
  refine AC_for l.length (fun _ => True) (fun i => ⟨envOf [(0, sE l), (3, grV 103 12 (rsE (l.take i))), (4, .int .i64 (i : Nat))], bkOf [(103, grB 45 12 (rsE (l.take i)))]⟩)
    (less_sub ⟨⟨_, rfl, .inl ⟨.refl _, rfl⟩⟩, ⟨_, rfl, .inl ⟨.nil _ _ _, rfl⟩⟩, ⟨_, rfl, .inl ⟨.refl _, rfl⟩⟩, trivial⟩ ⟨⟨⟨_, rfl, .refl _⟩, rfl⟩, trivial⟩) trivial ?_
  intro i hi _
  repeat' (first | refine WL_p hty rfl rfl ?_ | refine WL_nil ?_ | refine AC_seq ?_ | refine AC_region ?_ | refine AC_block ?_ | refine AC_skip ?_ | refine AC_condT rfl ?_ | refine AC_condF rfl ?_ | refine AC_exit ?_ | refine AC_ret ?_ | refine WL_m rfl (m_idxN hty rfl rfl rfl (by assumption) rfl) ?_ | refine ends_bool rfl ?_)
  refine WL_cmp rfl rfl rfl rfl (fun hc => ?_) (fun hc => ?_)
  · have hlt : i < l.length := by rw [rsE_length] at hc; omega
    obtain ⟨a, ha, hmem⟩ := get_of_lt hlt
    have ra := rsE_get ha
    have has := size_le_sizesE hmem
    unfold En.size at has
    have h1 := ktwin_spec a.typ (by omega)
    have h2 := ktwin_spec a.body (by omega)
    have h3 := ktwinBlock_spec a.block (by omega)
    repeat' (first | (refine AC_regK (id := 6) ?_; refine AC_less (less_sub (l := [(0, _), (3, _), (4, _), (5, _)]) (bl := [(5, _), (103, _)]) ⟨⟨_, rfl, .inl ⟨.refl _, rfl⟩⟩, ⟨_, rfl, .inl ⟨.refl _, keep_gr rfl⟩⟩, ⟨_, rfl, .inl ⟨.refl _, rfl⟩⟩, ⟨_, rfl, .inl ⟨.refl _, rfl⟩⟩, trivial⟩ ⟨⟨⟨_, rfl, .refl _⟩, rfl⟩, ⟨⟨_, rfl, .refl _⟩, keepB_gr⟩, trivial⟩) ?_; refine AC_drawnE (id := 6) tbKTwinB17_6 rfl (by kernel_rfl) ?_) | refine WE_cons (.inl ⟨rfl, m_call 0 rfl h1 rfl rfl rfl⟩) ?_ | refine WE_cons (.inl ⟨rfl, m_call 0 rfl h2 rfl rfl rfl⟩) ?_ | refine WE_cons (.inl ⟨rfl, m_call 0 rfl h3 rfl rfl rfl⟩) ?_ | refine WL_m rfl (m_appG hty 303 rfl rfl rfl rfl rfl rfl rfl (by simp only [rsE_length, List.length_take, List.length_cons, List.length_nil]; omega) rfl rfl rfl) ?_ | refine WE_cons (.inl ⟨rfl, stepE_ok hty rfl rfl⟩) ?_ | refine WE_nil ⟨by kernel_rfl, ?_⟩ | refine WL_p hty rfl rfl ?_ | refine WL_nil ?_ | refine AC_seq ?_ | refine AC_region ?_ | refine AC_block ?_ | refine AC_skip ?_ | refine AC_condT rfl ?_ | refine AC_condF rfl ?_ | refine AC_exit ?_ | refine AC_ret ?_ | refine WL_m rfl (m_idxN hty rfl rfl rfl (by assumption) rfl) ?_ | refine ends_bool rfl ?_ | refine WL_cmp rfl rfl rfl rfl (fun _ => ?_) (fun _ => ?_) | refine AC_cond rfl (fun _ => ?_) (fun _ => ?_))
    have hnx := rsE_next ha
    refine ⟨hlt, trivial, (less_ren [(103, 303)] rfl ⟨⟨_, rfl, .inl ⟨.refl _, rfl⟩⟩, ⟨_, rfl, .inl ⟨wk_gr rfl ?_, keep_gr rfl⟩⟩, ⟨_, rfl, see_eq ?_ rfl⟩, trivial⟩ ⟨⟨⟨_, rfl, wkB_gr ?_⟩, keepB_gr⟩, trivial⟩)⟩
    · exact hnx.symm
    · exact congrArg (AV.int .i64) ((wrap_ok (by omega) (by omega)).trans (by omega))
    · exact hnx.symm
  · obtain rfl : i = l.length := by rw [rsE_length] at hc; omega
    repeat' (first | refine WL_p hty rfl rfl ?_ | refine WL_nil ?_ | refine AC_seq ?_ | refine AC_region ?_ | refine AC_block ?_ | refine AC_skip ?_ | refine AC_condT rfl ?_ | refine AC_condF rfl ?_ | refine AC_exit ?_ | refine AC_ret ?_ | refine WL_m rfl (m_idxN hty rfl rfl rfl (by assumption) rfl) ?_ | refine ends_bool rfl ?_ | refine WL_cmp rfl rfl rfl rfl (fun _ => ?_) (fun _ => ?_) | refine AC_cond rfl (fun _ => ?_) (fun _ => ?_))
    rw [List.take_length]
    generalize rsE l = rs
    cases rs
    · exact ends_wk rfl rfl (.nil _ _ _)
    · exact ends_own rfl rfl rfl

end Go.Proofs.YtlonpgdnmngnmaaGreat
