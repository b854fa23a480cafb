/-
  Variables replaced: the job, the function that replaces, the term that comes of it.
-/
import Derived.Test.YtpnjflimilamdaaGreatSubst2
namespace Go.Proofs.YtpnjflimilamdaaGreat
set_option linter.unusedSimpArgs false
set_option linter.unusedVariables false
open Go.Aw Go.RowKit
attribute [local irreducible] WL AC WD MStep OkOp

def gOf (t : Tm) : Gr := ⟨t, (t.size : Nat), (t.depth : Nat), freeT t 0⟩
def jobT (t : Tm) (args : List Tm) (under : Int) : Jb := lookT t ⟨args.map gOf, under, false, 0, 0⟩ 0 0
/-- Why there is no job; 0: there is one. -/
def openE (t : Tm) (args : List Tm) (under : Int) : Int := if checkT t ≠ 0 then checkT t else match args.find? (fun a => decide (checkT a ≠ 0)) with
  | some a => checkT a
  | none => if under < 0 ∨ 65535 < under then 1 else 0
abbrev openAV (t : Tm) (args : List Tm) (under : Int) : AV := if openE t args under = 0 then .tup [.eptr (cJ (jobT t args under)) 0, .int .i64 0] else .tup [.nilp, .int .i64 (openE t args under)]

theorem checkT_ok {t : Tm} (h : checkT t = 0) : t.size ≤ 6000 ∧ t.depth ≤ 200 ∧ formedT t = true := by
  unfold checkT at h
  split at h
  · omega
  · split at h
    · omega
    · split at h
      · exact ⟨by omega, by omega, by assumption⟩
      · omega

def mkO (t : Tm) (args : List Tm) (under : Int) : Nat → AS
  | 0 => ⟨envOf [(2, .int .i64 under), (3, .ptr 3 0), (9, .ptr 20 0), (21, sT args), (22, .int .i64 ((rsT args).length : Nat)), (23, .int .i64 0)], bkOf [(3, .box (cT t)), (20, .box [.lst 6 [] true, .int .i64 under, .bool false, .int .i64 0, .int .i64 0])]⟩
  | j + 1 => ⟨envOf [(2, .int .i64 under), (3, .ptr 3 0), (9, .ptr 20 0), (21, sT args), (22, .int .i64 ((rsT args).length : Nat)), (23, .int .i64 ((j + 1 : Nat) : Int))],
      bkOf [(3, .box (cT t)), (20, .box [.arr 46, .int .i64 under, .bool false, .int .i64 0, .int .i64 0]), (46, .arr 54 6 (rsG ((args.take (j + 1)).map gOf)) false)]⟩

theorem find_none_of {args : List Tm} (h : ∀ (i : Nat) (a : Tm), args[i]? = some a → checkT a = 0) : args.find? (fun a => decide (checkT a ≠ 0)) = none := by
  rw [List.find?_eq_none]
  intro a ha
  obtain ⟨i, hi, rfl⟩ := List.mem_iff_getElem.1 ha
  have := h i args[i] (List.getElem?_eq_getElem hi)
  simp [this]
theorem find_hit {α : Type} {p : α → Bool} {a : α} (hp : p a = true) : ∀ {l : List α} {j : Nat}, (∀ (i : Nat) (b : α), i < j → l[i]? = some b → p b = false) → l[j]? = some a → l.find? p = some a
  | [], j, _, h => by simp at h
  | b :: l, 0, _, h => by
    obtain rfl : b = a := by simpa using h
    simp [hp]
  | b :: l, j + 1, h0, h => by
    have hb := h0 0 b (Nat.succ_pos j) rfl
    rw [List.find?_cons, hb]
    exact find_hit hp (fun i c hi hc => h0 (i + 1) c (Nat.succ_lt_succ hi) (by simpa using hc)) (by simpa using h)

set_option maxHeartbeats 8000000 in
theorem open_spec (t : Tm) (args : List Tm) (under : Int) (hs : t.size ≤ 1048576) (ha : sizes args ≤ 1048576) : FC Tryz.prog 19 [aT t, sT args, .int .i64 under] (openAV t args under) := by
  have hlen := len_le_sizes args
  refine FC_intro hty Tryz.func19 rfl rfl rfl fun w0 => ?_
  repeat' (first
    | refine WL_call 0 rfl (tcheck_spec t hs) rfl rfl rfl ?_
    | refine WL_p hty rfl rfl ?_
    | refine WL_nil ?_
    | refine AC_seq ?_
    | refine AC_region ?_
    | refine AC_block ?_
    | refine AC_skip ?_
    | refine AC_condT rfl ?_
    | refine AC_condF rfl ?_
    | refine AC_exit ?_
    | refine AC_ret ?_
    | refine WL_ung rfl rfl ?_
    | refine WL_offT rfl rfl rfl ?_
    | refine WL_offF rfl rfl rfl ?_
    | refine WL_offU rfl rfl rfl ?_
    | refine WL_m rfl (m_idxN hty rfl rfl rfl (by assumption) rfl) ?_
    | refine ends_bool rfl ?_
    | refine WL_cmp rfl rfl rfl rfl (fun _ => ?_) (fun _ => ?_)
    | refine AC_cond rfl (fun _ => ?_) (fun _ => ?_))
  · have he : openE t args under = checkT t := by unfold openE; rw [if_pos (by assumption)]
    rw [openAV, if_neg (by rw [he]; assumption), he]
    exact ends_wk rfl rfl (.refl _)
  rename_i hct
  have hct : checkT t = 0 := by omega
  have hoe : openE t args under = match args.find? (fun a => decide (checkT a ≠ 0)) with
    | some a => checkT a
    | none => if under < 0 ∨ 65535 < under then 1 else 0 := by unfold openE; rw [if_neg (by omega)]
  obtain ⟨hc1, hc2, hc3⟩ := checkT_ok hct
  refine AC_for args.length (fun j => ∀ i a, i < j → args[i]? = some a → checkT a = 0) (mkO t args under) (less_sub ⟨⟨_, rfl, .inl ⟨.refl _, rfl⟩⟩, ⟨_, rfl, .inl ⟨.refl _, rfl⟩⟩, ⟨_, rfl, .inl ⟨.refl _, rfl⟩⟩, ⟨_, rfl, .inl ⟨.refl _, rfl⟩⟩, ⟨_, rfl, .inl ⟨.refl _, rfl⟩⟩, ⟨_, rfl, .inl ⟨.refl _, rfl⟩⟩, trivial⟩ ⟨⟨⟨_, rfl, .refl _⟩, rfl⟩, ⟨⟨_, rfl, .refl _⟩, rfl⟩, trivial⟩) (fun i a hi => by omega) ?_
  intro j hj hI
  have key : ∀ a, args[j]? = some a → rsG ((args.take (j + 1)).map gOf) = rsG ((args.take j).map gOf) ++ [cG (gOf a)] := fun a ha => by
    rw [List.take_add_one, ha, Option.toList_some, List.map_append, rsG_append]; rfl
  have hbad : ∀ a, args[j]? = some a → checkT a ≠ 0 → openE t args under = checkT a := fun a hj hca => by
    rw [hoe, find_hit (p := fun a => decide (checkT a ≠ 0)) (by simp [hca]) (fun i b hi hb => by simp [hI i b hi hb]) hj]
  have hnext : ∀ a, args[j]? = some a → checkT a = 0 → ∀ i b, i < j + 1 → args[i]? = some b → checkT b = 0 := fun a hj hca i b hi hb => by
    rcases Nat.lt_or_ge i j with q | q
    · exact hI i b q hb
    · obtain rfl : i = j := by omega
      rw [hj] at hb
      obtain rfl := Option.some.inj hb
      exact hca
  have hfin : j = args.length → openE t args under = if under < 0 ∨ 65535 < under then 1 else 0 := fun e => by
    rw [hoe, find_none_of (fun i a h => hI i a (by have := (List.getElem?_eq_some_iff.1 h).1; omega) h)]
  cases j with
  | zero =>
    repeat' (first
      | refine WL_p hty rfl rfl ?_
      | refine WL_nil ?_
      | refine AC_seq ?_
      | refine AC_region ?_
      | refine AC_block ?_
      | refine AC_skip ?_
      | refine AC_condT rfl ?_
      | refine AC_condF rfl ?_
      | refine AC_exit ?_
      | refine AC_ret ?_
      | refine WL_ung rfl rfl ?_
      | refine WL_offT rfl rfl rfl ?_
      | refine WL_offF rfl rfl rfl ?_
      | refine WL_offU rfl rfl rfl ?_
      | refine WL_m rfl (m_idxN hty rfl rfl rfl (by assumption) rfl) ?_
      | refine ends_bool rfl ?_)
    refine WL_cmp rfl rfl rfl rfl (fun hc => ?_) (fun hc => ?_)
    · have hlt : 0 < args.length := by rw [rsT_length] at hc; omega
      obtain ⟨a, haj, hmem⟩ := get_of_lt hlt
      have hks := size_le_sizes hmem
      have hkd := a.depth_le
      have ra := rsT_get haj
      have hk := key a haj
      repeat' (first
        | refine WL_m rfl (m_idxN (i := 0) hty rfl rfl rfl ra rfl) ?_
        | refine WL_call 0 rfl (tcheck_spec a (by omega)) rfl rfl rfl ?_
        | refine WL_p hty rfl rfl ?_
        | refine WL_nil ?_
        | refine AC_seq ?_
        | refine AC_region ?_
        | refine AC_block ?_
        | refine AC_skip ?_
        | refine AC_condT rfl ?_
        | refine AC_condF rfl ?_
        | refine AC_exit ?_
        | refine AC_ret ?_
        | refine WL_ung rfl rfl ?_
        | refine WL_offT rfl rfl rfl ?_
        | refine WL_offF rfl rfl rfl ?_
        | refine WL_offU rfl rfl rfl ?_
        | refine WL_m rfl (m_idxN hty rfl rfl rfl (by assumption) rfl) ?_
        | refine ends_bool rfl ?_
        | refine WL_cmp rfl rfl rfl rfl (fun _ => ?_) (fun _ => ?_)
        | refine AC_cond rfl (fun _ => ?_) (fun _ => ?_))
      · rename_i hca
        rw [openAV, if_neg (by rw [hbad a haj hca]; exact hca), hbad a haj hca]
        exact ends_wk rfl rfl (.refl _)
      · rename_i hca
        have hca : checkT a = 0 := by omega
        repeat' (first
          | refine AC_drawn [[], [], [1], [1, 2], [1, 2, 3], [], [], [6], [], [6, 7, 8], [], [6, 7, 8, 9, 10], [5, 6, 7, 8, 9, 10, 11], [5, 6, 7, 8, 9, 10, 11, 12], [1, 2, 3, 4, 5, 6, 7, 8, 9, 10, 11, 12, 13], [0, 1, 2, 3, 4, 5, 6, 7, 8, 9, 10, 11, 12, 13, 14], [0, 1, 2, 3, 4, 5, 6, 7, 8, 9, 10, 11, 12, 13, 14, 15], [0, 1, 2, 3, 4, 5, 6, 7, 8, 9, 10, 11, 12, 13, 14, 15, 16]] rfl rfl ?_
          | refine WD_cons (.inl ⟨rfl, m_call 0 rfl (tsize_spec a (by omega)) rfl rfl rfl⟩) ?_
          | refine WD_cons (.inl ⟨rfl, m_call 0 rfl (tdepth_spec a (by omega)) rfl rfl rfl⟩) ?_
          | refine WD_cons (.inl ⟨rfl, m_call 0 rfl (free_spec a 0 (by omega) (by omega) (by omega)) rfl rfl rfl⟩) ?_
          | refine WD_cons (.inl ⟨rfl, m_appF hty 46 rfl rfl rfl rfl rfl rfl rfl (List.cons_ne_nil _ _) (Nat.le_of_ble_eq_true rfl) rfl rfl rfl⟩) ?_
          | refine WD_cons (.inl ⟨rfl, stepE_ok hty rfl rfl⟩) ?_
          | refine WD_cons (.inl ⟨rfl, m_idxN hty rfl rfl rfl (by assumption) rfl⟩) ?_
          | refine WD_ung rfl rfl ?_
          | refine WD_offT rfl rfl rfl ?_
          | refine WD_offF rfl rfl rfl ?_
          | refine WD_offU rfl rfl rfl ?_
          | refine WD_nil ⟨by kernel_rfl, ?_⟩
          | refine WL_p hty rfl rfl ?_
          | refine WL_nil ?_
          | refine AC_seq ?_
          | refine AC_region ?_
          | refine AC_block ?_
          | refine AC_skip ?_
          | refine AC_condT rfl ?_
          | refine AC_condF rfl ?_
          | refine AC_exit ?_
          | refine AC_ret ?_
          | refine WL_ung rfl rfl ?_
          | refine WL_offT rfl rfl rfl ?_
          | refine WL_offF rfl rfl rfl ?_
          | refine WL_offU rfl rfl rfl ?_
          | refine WL_m rfl (m_idxN hty rfl rfl rfl (by assumption) rfl) ?_
          | refine ends_bool rfl ?_
          | refine WL_cmp rfl rfl rfl rfl (fun _ => ?_) (fun _ => ?_)
          | refine AC_cond rfl (fun _ => ?_) (fun _ => ?_))
        refine ⟨hlt, hnext a haj hca, (less_freeze 46 rfl).trans (less_sub ⟨⟨_, rfl, .inl ⟨.refl _, rfl⟩⟩, ⟨_, rfl, .inl ⟨.refl _, rfl⟩⟩, ⟨_, rfl, .inl ⟨.refl _, rfl⟩⟩, ⟨_, rfl, .inl ⟨.refl _, rfl⟩⟩, ⟨_, rfl, .inl ⟨.refl _, rfl⟩⟩, ⟨_, rfl, see_eq ?_ rfl⟩, trivial⟩ ⟨⟨⟨_, rfl, .refl _⟩, rfl⟩, ⟨⟨_, rfl, .refl _⟩, rfl⟩, ⟨⟨_, rfl, .of_eq ?_⟩, rfl⟩, trivial⟩)⟩
        · exact congrArg (AV.int .i64) (wrap_ok (n := 1) (by omega) (by omega))
        · show AB.arr 54 6 _ false = AB.arr 54 6 _ false
          rw [hk]; rfl
    · have hE := hfin (by rw [rsT_length] at hc; omega)
      have hnil : args = [] := List.length_eq_zero_iff.1 (by rw [rsT_length] at hc; omega)
      repeat' (first
        | refine WL_p hty rfl rfl ?_
        | refine WL_nil ?_
        | refine AC_seq ?_
        | refine AC_region ?_
        | refine AC_block ?_
        | refine AC_skip ?_
        | refine AC_condT rfl ?_
        | refine AC_condF rfl ?_
        | refine AC_exit ?_
        | refine AC_ret ?_
        | refine WL_ung rfl rfl ?_
        | refine WL_offT rfl rfl rfl ?_
        | refine WL_offF rfl rfl rfl ?_
        | refine WL_offU rfl rfl rfl ?_
        | refine WL_m rfl (m_idxN hty rfl rfl rfl (by assumption) rfl) ?_
        | refine ends_bool rfl ?_
        | refine WL_cmp rfl rfl rfl rfl (fun _ => ?_) (fun _ => ?_)
        | refine AC_cond rfl (fun _ => ?_) (fun _ => ?_))
      · rw [openAV, if_neg (by rw [hE, if_pos (by omega)]; decide), hE, if_pos (by omega)]
        exact ends_wk rfl rfl (.refl _)
      · rw [openAV, if_neg (by rw [hE, if_pos (by omega)]; decide), hE, if_pos (by omega)]
        exact ends_wk rfl rfl (.refl _)
      · have hl := (look_spec t ⟨args.map gOf, under, false, 0, 0⟩ 0 0 hs hc3 (by rw [List.length_map]; omega) ⟨by show 0 ≤ under; omega, by show under ≤ 65535; omega⟩ (by omega) (by omega) (by omega) (by omega)).weak (Wks.refl _) (xs := [.ptr 0 0, aT t, .int .i64 0, .int .i64 0])
          (k := .box [.lst 6 [] true, .int .i64 under, .bool false, .int .i64 0, .int .i64 0]) (.box (.cons (by rw [hnil]; exact .nilF _ _ _) (Wks.refl _)))
        repeat' (first
          | refine WL_m rfl (m_callM 20 rfl rfl rfl hl rfl rfl) ?_
          | refine WL_p hty rfl rfl ?_
          | refine WL_nil ?_
          | refine AC_seq ?_
          | refine AC_region ?_
          | refine AC_block ?_
          | refine AC_skip ?_
          | refine AC_condT rfl ?_
          | refine AC_condF rfl ?_
          | refine AC_exit ?_
          | refine AC_ret ?_
          | refine WL_ung rfl rfl ?_
          | refine WL_offT rfl rfl rfl ?_
          | refine WL_offF rfl rfl rfl ?_
          | refine WL_offU rfl rfl rfl ?_
          | refine WL_m rfl (m_idxN hty rfl rfl rfl (by assumption) rfl) ?_
          | refine ends_bool rfl ?_
          | refine WL_cmp rfl rfl rfl rfl (fun _ => ?_) (fun _ => ?_)
          | refine AC_cond rfl (fun _ => ?_) (fun _ => ?_))
        rw [openAV, if_pos (by rw [hE, if_neg (by omega)])]
        exact ends_less (less_freezeBox 20 rfl rfl) (ends_wk rfl rfl (.refl _))
  | succ j =>
    have hdl : (rsG ((args.take (j + 1)).map gOf)).length = j + 1 := by rw [rsG_length, List.length_map, List.length_take]; omega
    repeat' (first
      | refine WL_p hty rfl rfl ?_
      | refine WL_nil ?_
      | refine AC_seq ?_
      | refine AC_region ?_
      | refine AC_block ?_
      | refine AC_skip ?_
      | refine AC_condT rfl ?_
      | refine AC_condF rfl ?_
      | refine AC_exit ?_
      | refine AC_ret ?_
      | refine WL_ung rfl rfl ?_
      | refine WL_offT rfl rfl rfl ?_
      | refine WL_offF rfl rfl rfl ?_
      | refine WL_offU rfl rfl rfl ?_
      | refine WL_m rfl (m_idxN hty rfl rfl rfl (by assumption) rfl) ?_
      | refine ends_bool rfl ?_)
    refine WL_cmp rfl rfl rfl rfl (fun hc => ?_) (fun hc => ?_)
    · have hlt : j + 1 < args.length := by rw [rsT_length] at hc; omega
      obtain ⟨a, haj, hmem⟩ := get_of_lt hlt
      have hks := size_le_sizes hmem
      have hkd := a.depth_le
      have ra := rsT_get haj
      have hk := key a haj
      repeat' (first
        | refine WL_m rfl (m_idxN (i := j + 1) hty rfl rfl rfl ra rfl) ?_
        | refine WL_call 0 rfl (tcheck_spec a (by omega)) rfl rfl rfl ?_
        | refine WL_p hty rfl rfl ?_
        | refine WL_nil ?_
        | refine AC_seq ?_
        | refine AC_region ?_
        | refine AC_block ?_
        | refine AC_skip ?_
        | refine AC_condT rfl ?_
        | refine AC_condF rfl ?_
        | refine AC_exit ?_
        | refine AC_ret ?_
        | refine WL_ung rfl rfl ?_
        | refine WL_offT rfl rfl rfl ?_
        | refine WL_offF rfl rfl rfl ?_
        | refine WL_offU rfl rfl rfl ?_
        | refine WL_m rfl (m_idxN hty rfl rfl rfl (by assumption) rfl) ?_
        | refine ends_bool rfl ?_
        | refine WL_cmp rfl rfl rfl rfl (fun _ => ?_) (fun _ => ?_)
        | refine AC_cond rfl (fun _ => ?_) (fun _ => ?_))
      · rename_i hca
        rw [openAV, if_neg (by rw [hbad a haj hca]; exact hca), hbad a haj hca]
        exact ends_wk rfl rfl (.refl _)
      · rename_i hca
        have hca : checkT a = 0 := by omega
        repeat' (first
          | refine AC_drawn [[100046], [], [1], [1, 2], [1, 2, 3], [], [], [6], [], [6, 7, 8], [], [6, 7, 8, 9, 10], [5, 6, 7, 8, 9, 10, 11], [5, 6, 7, 8, 9, 10, 11, 12], [1, 2, 3, 4, 5, 6, 7, 8, 9, 10, 11, 12, 13], [0, 1, 2, 3, 4, 5, 6, 7, 8, 9, 10, 11, 12, 13, 14], [0, 1, 2, 3, 4, 5, 6, 7, 8, 9, 10, 11, 12, 13, 14, 15], [0, 1, 2, 3, 4, 5, 6, 7, 8, 9, 10, 11, 12, 13, 14, 15, 16]] rfl rfl ?_
          | refine WD_cons (.inl ⟨rfl, m_call 0 rfl (tsize_spec a (by omega)) rfl rfl rfl⟩) ?_
          | refine WD_cons (.inl ⟨rfl, m_call 0 rfl (tdepth_spec a (by omega)) rfl rfl rfl⟩) ?_
          | refine WD_cons (.inl ⟨rfl, m_call 0 rfl (free_spec a 0 (by omega) (by omega) (by omega)) rfl rfl rfl⟩) ?_
          | refine WD_cons (.inl ⟨rfl, m_appA hty 1046 rfl rfl rfl rfl rfl rfl rfl rfl (List.cons_ne_nil _ _) (by rw [hdl]; show j + 1 + 1 ≤ 4194304; omega) rfl rfl rfl⟩) ?_
          | refine WD_cons (.inl ⟨rfl, stepE_ok hty rfl rfl⟩) ?_
          | refine WD_cons (.inl ⟨rfl, m_idxN hty rfl rfl rfl (by assumption) rfl⟩) ?_
          | refine WD_ung rfl rfl ?_
          | refine WD_offT rfl rfl rfl ?_
          | refine WD_offF rfl rfl rfl ?_
          | refine WD_offU rfl rfl rfl ?_
          | refine WD_nil ⟨by kernel_rfl, ?_⟩
          | refine WL_p hty rfl rfl ?_
          | refine WL_nil ?_
          | refine AC_seq ?_
          | refine AC_region ?_
          | refine AC_block ?_
          | refine AC_skip ?_
          | refine AC_condT rfl ?_
          | refine AC_condF rfl ?_
          | refine AC_exit ?_
          | refine AC_ret ?_
          | refine WL_ung rfl rfl ?_
          | refine WL_offT rfl rfl rfl ?_
          | refine WL_offF rfl rfl rfl ?_
          | refine WL_offU rfl rfl rfl ?_
          | refine WL_m rfl (m_idxN hty rfl rfl rfl (by assumption) rfl) ?_
          | refine ends_bool rfl ?_
          | refine WL_cmp rfl rfl rfl rfl (fun _ => ?_) (fun _ => ?_)
          | refine AC_cond rfl (fun _ => ?_) (fun _ => ?_))
        refine ⟨hlt, hnext a haj hca, (less_ren [(46, 1046)] rfl ⟨⟨_, rfl, .inl ⟨.refl _, rfl⟩⟩, ⟨_, rfl, .inl ⟨.refl _, rfl⟩⟩, ⟨_, rfl, .inl ⟨.refl _, rfl⟩⟩, ⟨_, rfl, .inl ⟨.refl _, rfl⟩⟩, ⟨_, rfl, .inl ⟨.refl _, rfl⟩⟩, ⟨_, rfl, see_eq ?_ rfl⟩, trivial⟩ ⟨⟨⟨_, rfl, .refl _⟩, rfl⟩, ⟨⟨_, rfl, .refl _⟩, rfl⟩, ⟨⟨_, rfl, .of_eq ?_⟩, rfl⟩, trivial⟩)⟩
        · exact congrArg (AV.int .i64) ((wrap_ok (by omega) (by omega)).trans (by omega))
        · show AB.arr 54 6 _ false = AB.arr 54 6 _ false
          rw [hk]; rfl
    · have hE := hfin (by rw [rsT_length] at hc; omega)
      have htk : args.take (j + 1) = args := List.take_of_length_le (by rw [rsT_length] at hc; omega)
      repeat' (first
        | refine WL_p hty rfl rfl ?_
        | refine WL_nil ?_
        | refine AC_seq ?_
        | refine AC_region ?_
        | refine AC_block ?_
        | refine AC_skip ?_
        | refine AC_condT rfl ?_
        | refine AC_condF rfl ?_
        | refine AC_exit ?_
        | refine AC_ret ?_
        | refine WL_ung rfl rfl ?_
        | refine WL_offT rfl rfl rfl ?_
        | refine WL_offF rfl rfl rfl ?_
        | refine WL_offU rfl rfl rfl ?_
        | refine WL_m rfl (m_idxN hty rfl rfl rfl (by assumption) rfl) ?_
        | refine ends_bool rfl ?_
        | refine WL_cmp rfl rfl rfl rfl (fun _ => ?_) (fun _ => ?_)
        | refine AC_cond rfl (fun _ => ?_) (fun _ => ?_))
      · rw [openAV, if_neg (by rw [hE, if_pos (by omega)]; decide), hE, if_pos (by omega)]
        exact ends_wk rfl rfl (.refl _)
      · rw [openAV, if_neg (by rw [hE, if_pos (by omega)]; decide), hE, if_pos (by omega)]
        exact ends_wk rfl rfl (.refl _)
      · have hl := (look_spec t ⟨args.map gOf, under, false, 0, 0⟩ 0 0 hs hc3 (by rw [List.length_map]; omega) ⟨by show 0 ≤ under; omega, by show under ≤ 65535; omega⟩ (by omega) (by omega) (by omega) (by omega)).weak (Wks.refl _) (xs := [.ptr 0 0, aT t, .int .i64 0, .int .i64 0])
          (k := .box [.lst 6 (rsG ((args.take (j + 1)).map gOf)) false, .int .i64 under, .bool false, .int .i64 0, .int .i64 0]) (.box (.cons (.of_eq (by rw [htk])) (Wks.refl _)))
        repeat' (first
          | refine WL_m rfl (m_callM 20 rfl rfl rfl hl rfl rfl) ?_
          | refine WL_p hty rfl rfl ?_
          | refine WL_nil ?_
          | refine AC_seq ?_
          | refine AC_region ?_
          | refine AC_block ?_
          | refine AC_skip ?_
          | refine AC_condT rfl ?_
          | refine AC_condF rfl ?_
          | refine AC_exit ?_
          | refine AC_ret ?_
          | refine WL_ung rfl rfl ?_
          | refine WL_offT rfl rfl rfl ?_
          | refine WL_offF rfl rfl rfl ?_
          | refine WL_offU rfl rfl rfl ?_
          | refine WL_m rfl (m_idxN hty rfl rfl rfl (by assumption) rfl) ?_
          | refine ends_bool rfl ?_
          | refine WL_cmp rfl rfl rfl rfl (fun _ => ?_) (fun _ => ?_)
          | refine AC_cond rfl (fun _ => ?_) (fun _ => ?_))
        rw [openAV, if_pos (by rw [hE, if_neg (by omega)])]
        exact ends_less (less_freezeBox 20 rfl rfl) (ends_wk rfl rfl (.refl _))

end Go.Proofs.YtpnjflimilamdaaGreat
