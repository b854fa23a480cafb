/-
  The document's answer: whether a constructor has the right shape.
-/
import Derived.Test.YtgjoeoojplbhpaaShape
namespace Go.Proofs.Ytgjoeoojplbhpaa
set_option linter.unusedSimpArgs false
set_option linter.unusedVariables false
open Go.Aw Go.RowKit
attribute [local irreducible] WL AC WD MStep OkOp

def argSeq (b : Bl) : Int → List Ar → Bool
  | _, [] => true
  | i, t :: l => argB b t i && argSeq b (i + 1) l
theorem argSeq_append (b : Bl) (x y : List Ar) : ∀ i : Int, argSeq b i (x ++ y) = (argSeq b i x && argSeq b (i + x.length) y) := by
  induction x with
  | nil => intro i; simp [argSeq]
  | cons z a ih =>
    intro i
    simp only [List.cons_append, argSeq, ih, Bool.and_assoc, List.length_cons]
    rw [show i + 1 + (a.length : Int) = i + ((a.length + 1 : Nat) : Int) by omega]
theorem argSeq_split {b : Bl} {l : List Ar} {j : Nat} {x : Ar} (h : l[j]? = some x) (i : Int) : argSeq b i l = (argSeq b i (l.take j) && (argB b x (i + (j : Nat)) && argSeq b (i + (j : Nat) + 1) (l.drop (j + 1)))) := by
  have hlt : j < l.length := (List.getElem?_eq_some_iff.1 h).1
  conv => lhs; rw [← List.take_append_drop j l, argSeq_append, List.drop_eq_getElem_cons hlt, argSeq]
  have h1 : (l.take j).length = j := by rw [List.length_take]; omega
  have h2 : l[j] = x := by rw [List.getElem?_eq_getElem hlt] at h; exact Option.some.inj h
  rw [h1, h2]
theorem argSeq_take_succ {b : Bl} {l : List Ar} {j : Nat} {x : Ar} (h : l[j]? = some x) (i : Int) : argSeq b i (l.take (j + 1)) = (argSeq b i (l.take j) && argB b x (i + (j : Nat))) := by
  have hlt : j < l.length := (List.getElem?_eq_some_iff.1 h).1
  have h1 : (l.take j).length = j := by rw [List.length_take]; omega
  rw [List.take_add_one, h, Option.toList_some, argSeq_append, h1]
  simp [argSeq]

/-- Whether a sort decodes. -/
def decS (b : Bl) (s : Int) : Bool := match b.sorts[s.toNat]? with
  | some x => x.dec
  | none => false
def conB (b : Bl) (c : Cn) : Bool :=
  (inR c.sort 0 ((b.sorts.length : Int) - 1) && (decide (c.args.length ≤ 12) && decide (c.idx.length = idxN b c.sort))) &&
    (argSeq b 0 c.args && ((c.idx.all fun t => openT t c.args.length) && (if decS b c.sort = true then openT c.dec c.args.length else decide (c.dec = zT))))

set_option maxRecDepth 4000 in
set_option maxHeartbeats 4000000 in
theorem con_spec (b : Bl) (c : Cn) (hb : b.size ≤ 1048576) (ha : c.size ≤ 1048576) : FC Try.prog 38 [aB b, aC c] (.bool (conB b c)) := by
  have hsl := len_le_sizesS b.sorts
  have hb' := hb
  unfold Bl.size at hb'
  unfold Cn.size at ha
  have hd := len_le_sizesA c.args
  have hx := len_le_sizes c.idx
  have hw : IntKind.i64.wrap (((rsS b.sorts).length : Int) - 1) = (b.sorts.length : Int) - 1 := by rw [rsS_length]; exact wrap_ok (n := (b.sorts.length : Int) - 1) (by omega) (by omega)
  have hiF := in7_spec c.sort 0 (IntKind.i64.wrap (((rsS b.sorts).length : Int) - 1))
  obtain ⟨so, ar, ix, de⟩ := c
  simp only at ha hd hx hiF
  refine FC_intro hty Try.func38 rfl rfl rfl fun w0 => ?_
  have hae : conB b ⟨so, ar, ix, de⟩ = ((inR so 0 ((b.sorts.length : Int) - 1) && (decide (ar.length ≤ 12) && decide (ix.length = idxN b so))) &&
    (argSeq b 0 ar && ((ix.all fun t => openT t ar.length) && (if decS b so = true then openT de ar.length else decide (de = zT))))) := rfl
  by_cases hin : inR so 0 ((b.sorts.length : Int) - 1) = true
  · have hin2 := hin
    simp only [inR, Bool.and_eq_true, decide_eq_true_eq] at hin2
    obtain ⟨s, hs, hsm⟩ := get_of_lt (show so.toNat < b.sorts.length by omega)
    have rs := rsS_get hs
    have hiF := fc_eq hiF (show _ = AV.bool true by rw [hw, hin])
    have hix : idxN b so = s.idx.length := by unfold idxN; rw [hs]
    have hde : decS b so = s.dec := by unfold decS; rw [hs]
    repeat' (first
      | refine AC_drawn [[], [0], [], [2], [2, 3], [2, 3, 4], [0, 1, 2, 3, 4, 5], [0, 1, 2, 3, 4, 5, 6], [0, 1, 2, 3, 4, 5, 6, 7], [0, 1, 2, 3, 4, 5, 6, 7, 8], [0, 1, 2, 3, 4, 5, 6, 7, 8, 9], [0, 1, 2, 3, 4, 5, 6, 7, 8, 9, 10], [0, 1, 2, 3, 4, 5, 6, 7, 8, 9, 10, 11], [0, 1, 2, 3, 4, 5, 6, 7, 8, 9, 10, 11, 12], [0, 1, 2, 3, 4, 5, 6, 7, 8, 9, 10, 11, 12, 13], [0, 1, 2, 3, 4, 5, 6, 7, 8, 9, 10, 11, 12, 13, 14], [0, 1, 2, 3, 4, 5, 6, 7, 8, 9, 10, 11, 12, 13, 14, 15], [0, 1, 2, 3, 4, 5, 6, 7, 8, 9, 10, 11, 12, 13, 14, 15, 16], [0, 1, 2, 3, 4, 5, 6, 7, 8, 9, 10, 11, 12, 13, 14], [0, 1, 2, 3, 4, 5, 6, 7, 8, 9, 10, 11, 12, 13, 14, 18], [0, 1, 2, 3, 4, 5, 6, 7, 8, 9, 10, 11, 12, 13, 14], [0, 1, 2, 3, 4, 5, 6, 7, 8, 9, 10, 11, 12, 13, 14, 20], [0, 1, 2, 3, 4, 5, 6, 7, 8, 9, 10, 11, 12, 13, 14, 18, 19, 20, 21], [0, 1, 2, 3, 4, 5, 6, 7, 8, 9, 10, 11, 12, 13, 14, 18, 19, 20, 21, 22], [0, 1, 2, 3, 4, 5, 6, 7, 8, 9, 10, 11, 12, 13, 14, 18, 19, 20, 21, 22, 23], [0, 1, 2, 3, 4, 5, 6, 7, 8, 9, 10, 11, 12, 13, 14, 18, 19, 20, 21, 22, 23, 24], [0, 1, 2, 3, 4, 5, 6, 7, 8, 9, 10, 11, 12, 13, 14, 15, 16, 17, 18, 19, 20, 21, 22, 23, 24, 25], [0, 1, 2, 3, 4, 5, 6, 7, 8, 9, 10, 11, 12, 13, 14, 15, 16, 17, 18, 19, 20, 21, 22, 23, 24, 25, 26]] rfl rfl ?_
      | refine WD_call 0 rfl hiF rfl rfl rfl ?_
      | refine WD_m rfl (m_idxL hty rfl rfl rfl hin2.1 rs rfl) ?_
      | refine WD_cons (.inl ⟨rfl, stepE_ok hty rfl rfl⟩) ?_
      | refine WD_cons (.inl ⟨rfl, m_idxN hty rfl rfl rfl (by assumption) rfl⟩) ?_
      | refine WD_ung rfl rfl ?_
      | refine WD_offT rfl rfl rfl ?_
      | refine WD_offF rfl rfl rfl ?_
      | refine WD_offU rfl rfl rfl ?_
      | refine WD_nil ⟨by kernel_rfl, ?_⟩
      | refine WL_p hty rfl rfl ?_
      | refine WL_nil ?_
      | refine AC_seq ?_
      | refine AC_region ?_
      | refine AC_block ?_
      | refine AC_skip ?_
      | refine AC_condT rfl ?_
      | refine AC_condF rfl ?_
      | refine AC_exit ?_
      | refine AC_ret ?_
      | refine WL_ung rfl rfl ?_
      | refine WL_offT rfl rfl rfl ?_
      | refine WL_offF rfl rfl rfl ?_
      | refine WL_offU rfl rfl rfl ?_
      | refine WL_m rfl (m_idxN hty rfl rfl rfl (by assumption) rfl) ?_
      | refine ends_bool rfl ?_
      | refine WL_cmp rfl rfl rfl rfl (fun _ => ?_) (fun _ => ?_)
      | refine AC_cond rfl (fun _ => ?_) (fun _ => ?_)
      | refine WD_cmp rfl rfl rfl rfl (fun _ => ?_) (fun _ => ?_))
    · rename_i h2
      have h2 : 12 < ((rsA ar).length : Int) := h2
      rw [rsA_length] at h2
      rw [hae, show decide (ar.length ≤ 12) = false from decide_eq_false (by omega)]; simp
    · rename_i h2 h3
      have h3 : ((rsT ix).length : Int) ≠ (rsA s.idx).length := h3
      rw [rsT_length, rsA_length] at h3
      rw [hae, hix, show decide (ix.length = s.idx.length) = false from decide_eq_false (by omega)]; simp
    · rename_i h2 h3
      have h2 : ¬ 12 < ((rsA ar).length : Int) := h2
      have h3 : ¬ ((rsT ix).length : Int) ≠ (rsA s.idx).length := h3
      rw [rsA_length] at h2
      rw [rsT_length, rsA_length] at h3
      rw [hin, show decide (ar.length ≤ 12) = true from decide_eq_true (by omega), hix, show decide (ix.length = s.idx.length) = true from decide_eq_true (by omega), hde] at hae
      simp only [Bool.true_and] at hae
      clear hiF
      rw [hae]
      refine AC_for ar.length (fun j => argSeq b 0 (ar.take j) = true) (fun j => ⟨envOf [(2, .ptr 2 0), (3, .ptr 3 0), (5, .int .i64 (j : Nat))],
        bkOf [(2, .box [.lst 6 (rsS b.sorts) false, .lst 6 (rsC b.cons) false, .int .i64 b.elim]), (3, .box (cC ⟨so, ar, ix, de⟩))]⟩) (less_sub ⟨⟨_, rfl, .inl ⟨.refl _, rfl⟩⟩, ⟨_, rfl, .inl ⟨.refl _, rfl⟩⟩, ⟨_, rfl, .inl ⟨.refl _, rfl⟩⟩, trivial⟩ ⟨⟨⟨_, rfl, .refl _⟩, rfl⟩, ⟨⟨_, rfl, .refl _⟩, rfl⟩, trivial⟩) rfl ?_
      intro j hj hI
      repeat' (first
        | refine WL_p hty rfl rfl ?_
        | refine WL_nil ?_
        | refine AC_seq ?_
        | refine AC_region ?_
        | refine AC_block ?_
        | refine AC_skip ?_
        | refine AC_condT rfl ?_
        | refine AC_condF rfl ?_
        | refine AC_exit ?_
        | refine AC_ret ?_
        | refine WL_ung rfl rfl ?_
        | refine WL_offT rfl rfl rfl ?_
        | refine WL_offF rfl rfl rfl ?_
        | refine WL_offU rfl rfl rfl ?_
        | refine WL_m rfl (m_idxN hty rfl rfl rfl (by assumption) rfl) ?_
        | refine ends_bool rfl ?_)
      refine WL_cmp rfl rfl rfl rfl (fun hc => ?_) (fun hc => ?_)
      · have hc : (j : Int) < ((rsA ar).length : Int) := hc
        have hlt : j < ar.length := by rw [rsA_length] at hc; omega
        obtain ⟨k, hk, hmem⟩ := get_of_lt hlt
        have hks := size_le_sizesA hmem
        have rk := rsA_get hk
        have hop := arg_spec b k (j : Nat) hb (by omega) (by omega) (by omega)
        repeat' (first
          | refine AC_drawn [[], [], [1], [], [1, 2, 3], [1, 2, 3, 4], [], [0, 1, 2, 3, 4, 5, 6], [0, 1, 2, 3, 4, 5, 6, 7]] rfl rfl ?_
          | refine WD_callB rfl hop rfl (fun _ => ?_) (fun _ => ?_)
          | refine WD_cons (.inl ⟨rfl, stepE_ok hty rfl rfl⟩) ?_
          | refine WD_cons (.inl ⟨rfl, m_idxN hty rfl rfl rfl (by assumption) rfl⟩) ?_
          | refine WD_ung rfl rfl ?_
          | refine WD_offT rfl rfl rfl ?_
          | refine WD_offF rfl rfl rfl ?_
          | refine WD_offU rfl rfl rfl ?_
          | refine WD_nil ⟨by kernel_rfl, ?_⟩
          | refine WL_p hty rfl rfl ?_
          | refine WL_nil ?_
          | refine AC_seq ?_
          | refine AC_region ?_
          | refine AC_block ?_
          | refine AC_skip ?_
          | refine AC_condT rfl ?_
          | refine AC_condF rfl ?_
          | refine AC_exit ?_
          | refine AC_ret ?_
          | refine WL_ung rfl rfl ?_
          | refine WL_offT rfl rfl rfl ?_
          | refine WL_offF rfl rfl rfl ?_
          | refine WL_offU rfl rfl rfl ?_
          | refine WL_m rfl (m_idxN hty rfl rfl rfl (by assumption) rfl) ?_
          | refine ends_bool rfl ?_
          | refine WL_cmp rfl rfl rfl rfl (fun _ => ?_) (fun _ => ?_)
          | refine AC_cond rfl (fun _ => ?_) (fun _ => ?_)
          | refine WD_cmp rfl rfl rfl rfl (fun _ => ?_) (fun _ => ?_))
        all_goals rename_i hq
        · refine ⟨hlt, by rw [argSeq_take_succ hk, hI, Int.zero_add, hq]; rfl, (less_sub ⟨⟨_, rfl, .inl ⟨.refl _, rfl⟩⟩, ⟨_, rfl, .inl ⟨.refl _, rfl⟩⟩, ⟨_, rfl, see_eq ?_ rfl⟩, trivial⟩ ⟨⟨⟨_, rfl, .refl _⟩, rfl⟩, ⟨⟨_, rfl, .refl _⟩, rfl⟩, trivial⟩)⟩
          exact congrArg (AV.int .i64) ((wrap_ok (by omega) (by omega)).trans (by omega))
        · rw [argSeq_split hk, Int.zero_add, hq]; simp
      · have hc : ¬ (j : Int) < ((rsA ar).length : Int) := hc
        obtain rfl : j = ar.length := by rw [rsA_length] at hc; omega
        rw [List.take_length] at hI
        rw [hI, Bool.true_and]
        repeat' (first
          | refine WL_p hty rfl rfl ?_
          | refine WL_nil ?_
          | refine AC_seq ?_
          | refine AC_region ?_
          | refine AC_block ?_
          | refine AC_skip ?_
          | refine AC_condT rfl ?_
          | refine AC_condF rfl ?_
          | refine AC_exit ?_
          | refine AC_ret ?_
          | refine WL_ung rfl rfl ?_
          | refine WL_offT rfl rfl rfl ?_
          | refine WL_offF rfl rfl rfl ?_
          | refine WL_offU rfl rfl rfl ?_
          | refine WL_m rfl (m_idxN hty rfl rfl rfl (by assumption) rfl) ?_
          | refine ends_bool rfl ?_
          | refine WL_cmp rfl rfl rfl rfl (fun _ => ?_) (fun _ => ?_)
          | refine AC_cond rfl (fun _ => ?_) (fun _ => ?_))
        refine AC_for ix.length (fun j => (ix.take j).all (fun t => openT t ar.length) = true) (fun j => ⟨envOf [(2, .ptr 2 0), (3, .ptr 3 0), (6, .int .i64 (j : Nat))],
          bkOf [(2, .box [.lst 6 (rsS b.sorts) false, .lst 6 (rsC b.cons) false, .int .i64 b.elim]), (3, .box (cC ⟨so, ar, ix, de⟩))]⟩) (less_sub ⟨⟨_, rfl, .inl ⟨.refl _, rfl⟩⟩, ⟨_, rfl, .inl ⟨.refl _, rfl⟩⟩, ⟨_, rfl, .inl ⟨.refl _, rfl⟩⟩, trivial⟩ ⟨⟨⟨_, rfl, .refl _⟩, rfl⟩, ⟨⟨_, rfl, .refl _⟩, rfl⟩, trivial⟩) rfl ?_
        intro j hj hI
        repeat' (first
          | refine WL_p hty rfl rfl ?_
          | refine WL_nil ?_
          | refine AC_seq ?_
          | refine AC_region ?_
          | refine AC_block ?_
          | refine AC_skip ?_
          | refine AC_condT rfl ?_
          | refine AC_condF rfl ?_
          | refine AC_exit ?_
          | refine AC_ret ?_
          | refine WL_ung rfl rfl ?_
          | refine WL_offT rfl rfl rfl ?_
          | refine WL_offF rfl rfl rfl ?_
          | refine WL_offU rfl rfl rfl ?_
          | refine WL_m rfl (m_idxN hty rfl rfl rfl (by assumption) rfl) ?_
          | refine ends_bool rfl ?_)
        refine WL_cmp rfl rfl rfl rfl (fun hc => ?_) (fun hc => ?_)
        · have hc : (j : Int) < ((rsT ix).length : Int) := hc
          have hlt : j < ix.length := by rw [rsT_length] at hc; omega
          obtain ⟨k, hk, hmem⟩ := get_of_lt hlt
          have hks := size_le_sizes hmem
          have rk := rsT_get hk
          have hop := open_spec k ((rsA ar).length : Nat) (by omega)
          repeat' (first
            | refine AC_drawn [[], [0], [], [0, 1, 2], [0, 1, 2, 3], [], [5], [5, 6], [0, 1, 2, 3, 4, 5, 6, 7], [0, 1, 2, 3, 4, 5, 6, 7, 8]] rfl rfl ?_
            | refine WD_callB rfl hop rfl (fun _ => ?_) (fun _ => ?_)
            | refine WD_cons (.inl ⟨rfl, stepE_ok hty rfl rfl⟩) ?_
            | refine WD_cons (.inl ⟨rfl, m_idxN hty rfl rfl rfl (by assumption) rfl⟩) ?_
            | refine WD_ung rfl rfl ?_
            | refine WD_offT rfl rfl rfl ?_
            | refine WD_offF rfl rfl rfl ?_
            | refine WD_offU rfl rfl rfl ?_
            | refine WD_nil ⟨by kernel_rfl, ?_⟩
            | refine WL_p hty rfl rfl ?_
            | refine WL_nil ?_
            | refine AC_seq ?_
            | refine AC_region ?_
            | refine AC_block ?_
            | refine AC_skip ?_
            | refine AC_condT rfl ?_
            | refine AC_condF rfl ?_
            | refine AC_exit ?_
            | refine AC_ret ?_
            | refine WL_ung rfl rfl ?_
            | refine WL_offT rfl rfl rfl ?_
            | refine WL_offF rfl rfl rfl ?_
            | refine WL_offU rfl rfl rfl ?_
            | refine WL_m rfl (m_idxN hty rfl rfl rfl (by assumption) rfl) ?_
            | refine ends_bool rfl ?_
            | refine WL_cmp rfl rfl rfl rfl (fun _ => ?_) (fun _ => ?_)
            | refine AC_cond rfl (fun _ => ?_) (fun _ => ?_)
            | refine WD_cmp rfl rfl rfl rfl (fun _ => ?_) (fun _ => ?_))
          all_goals (rename_i hb; rw [rsA_length] at hb)
          · refine ⟨hlt, by rw [List.take_add_one, hk, Option.toList_some, List.all_append, hI]; simp [hb], (less_sub ⟨⟨_, rfl, .inl ⟨.refl _, rfl⟩⟩, ⟨_, rfl, .inl ⟨.refl _, rfl⟩⟩, ⟨_, rfl, see_eq ?_ rfl⟩, trivial⟩ ⟨⟨⟨_, rfl, .refl _⟩, rfl⟩, ⟨⟨_, rfl, .refl _⟩, rfl⟩, trivial⟩)⟩
            exact congrArg (AV.int .i64) ((wrap_ok (by omega) (by omega)).trans (by omega))
          · rw [List.all_eq_false.2 ⟨k, hmem, by simp [hb]⟩]; rfl
        · have hc : ¬ (j : Int) < ((rsT ix).length : Int) := hc
          obtain rfl : j = ix.length := by rw [rsT_length] at hc; omega
          rw [List.take_length] at hI
          rw [hI, Bool.true_and]
          have hop := open_spec de ((rsA ar).length : Nat) (by omega)
          rw [rsA_length] at hop
          obtain ⟨sx, sl, sd, st⟩ := s
          cases sd
          · repeat' (first
              | refine WL_m rfl (m_idxL hty rfl rfl rfl hin2.1 rs rfl) ?_
              | refine WL_call 0 rfl (rnone_spec de) rfl rfl rfl ?_
              | refine WL_p hty rfl rfl ?_
              | refine WL_nil ?_
              | refine AC_seq ?_
              | refine AC_region ?_
              | refine AC_block ?_
              | refine AC_skip ?_
              | refine AC_condT rfl ?_
              | refine AC_condF rfl ?_
              | refine AC_exit ?_
              | refine AC_ret ?_
              | refine WL_ung rfl rfl ?_
              | refine WL_offT rfl rfl rfl ?_
              | refine WL_offF rfl rfl rfl ?_
              | refine WL_offU rfl rfl rfl ?_
              | refine WL_m rfl (m_idxN hty rfl rfl rfl (by assumption) rfl) ?_
              | refine ends_bool rfl ?_
              | refine WL_cmp rfl rfl rfl rfl (fun _ => ?_) (fun _ => ?_)
              | refine AC_cond rfl (fun _ => ?_) (fun _ => ?_))
            all_goals rfl
          · rw [← rsA_length ar] at hop
            repeat' (first
              | refine WL_m rfl (m_idxL hty rfl rfl rfl hin2.1 rs rfl) ?_
              | refine WL_call 0 rfl hop rfl rfl rfl ?_
              | refine WL_p hty rfl rfl ?_
              | refine WL_nil ?_
              | refine AC_seq ?_
              | refine AC_region ?_
              | refine AC_block ?_
              | refine AC_skip ?_
              | refine AC_condT rfl ?_
              | refine AC_condF rfl ?_
              | refine AC_exit ?_
              | refine AC_ret ?_
              | refine WL_ung rfl rfl ?_
              | refine WL_offT rfl rfl rfl ?_
              | refine WL_offF rfl rfl rfl ?_
              | refine WL_offU rfl rfl rfl ?_
              | refine WL_m rfl (m_idxN hty rfl rfl rfl (by assumption) rfl) ?_
              | refine ends_bool rfl ?_
              | refine WL_cmp rfl rfl rfl rfl (fun _ => ?_) (fun _ => ?_)
              | refine AC_cond rfl (fun _ => ?_) (fun _ => ?_))
            all_goals rw [rsA_length]; rfl
  · have hiF := fc_eq hiF (show _ = AV.bool false by rw [hw, Bool.eq_false_iff.2 hin])
    repeat' (first
      | refine AC_drawn [[], [0], [], [2], [2, 3], [2, 3, 4], [0, 1, 2, 3, 4, 5], [0, 1, 2, 3, 4, 5, 6], [0, 1, 2, 3, 4, 5, 6, 7], [0, 1, 2, 3, 4, 5, 6, 7, 8], [0, 1, 2, 3, 4, 5, 6, 7, 8, 9], [0, 1, 2, 3, 4, 5, 6, 7, 8, 9, 10], [0, 1, 2, 3, 4, 5, 6, 7, 8, 9, 10, 11], [0, 1, 2, 3, 4, 5, 6, 7, 8, 9, 10, 11, 12], [0, 1, 2, 3, 4, 5, 6, 7, 8, 9, 10, 11, 12, 13], [0, 1, 2, 3, 4, 5, 6, 7, 8, 9, 10, 11, 12, 13, 14], [0, 1, 2, 3, 4, 5, 6, 7, 8, 9, 10, 11, 12, 13, 14, 15], [0, 1, 2, 3, 4, 5, 6, 7, 8, 9, 10, 11, 12, 13, 14, 15, 16], [0, 1, 2, 3, 4, 5, 6, 7, 8, 9, 10, 11, 12, 13, 14], [0, 1, 2, 3, 4, 5, 6, 7, 8, 9, 10, 11, 12, 13, 14, 18], [0, 1, 2, 3, 4, 5, 6, 7, 8, 9, 10, 11, 12, 13, 14], [0, 1, 2, 3, 4, 5, 6, 7, 8, 9, 10, 11, 12, 13, 14, 20], [0, 1, 2, 3, 4, 5, 6, 7, 8, 9, 10, 11, 12, 13, 14, 18, 19, 20, 21], [0, 1, 2, 3, 4, 5, 6, 7, 8, 9, 10, 11, 12, 13, 14, 18, 19, 20, 21, 22], [0, 1, 2, 3, 4, 5, 6, 7, 8, 9, 10, 11, 12, 13, 14, 18, 19, 20, 21, 22, 23], [0, 1, 2, 3, 4, 5, 6, 7, 8, 9, 10, 11, 12, 13, 14, 18, 19, 20, 21, 22, 23, 24], [0, 1, 2, 3, 4, 5, 6, 7, 8, 9, 10, 11, 12, 13, 14, 15, 16, 17, 18, 19, 20, 21, 22, 23, 24, 25], [0, 1, 2, 3, 4, 5, 6, 7, 8, 9, 10, 11, 12, 13, 14, 15, 16, 17, 18, 19, 20, 21, 22, 23, 24, 25, 26]] rfl rfl ?_
      | refine WD_call 0 rfl hiF rfl rfl rfl ?_
      | refine WD_cons (.inl ⟨rfl, stepE_ok hty rfl rfl⟩) ?_
      | refine WD_cons (.inl ⟨rfl, m_idxN hty rfl rfl rfl (by assumption) rfl⟩) ?_
      | refine WD_ung rfl rfl ?_
      | refine WD_offT rfl rfl rfl ?_
      | refine WD_offF rfl rfl rfl ?_
      | refine WD_offU rfl rfl rfl ?_
      | refine WD_nil ⟨by kernel_rfl, ?_⟩
      | refine WL_p hty rfl rfl ?_
      | refine WL_nil ?_
      | refine AC_seq ?_
      | refine AC_region ?_
      | refine AC_block ?_
      | refine AC_skip ?_
      | refine AC_condT rfl ?_
      | refine AC_condF rfl ?_
      | refine AC_exit ?_
      | refine AC_ret ?_
      | refine WL_ung rfl rfl ?_
      | refine WL_offT rfl rfl rfl ?_
      | refine WL_offF rfl rfl rfl ?_
      | refine WL_offU rfl rfl rfl ?_
      | refine WL_m rfl (m_idxN hty rfl rfl rfl (by assumption) rfl) ?_
      | refine ends_bool rfl ?_
      | refine WL_cmp rfl rfl rfl rfl (fun _ => ?_) (fun _ => ?_)
      | refine AC_cond rfl (fun _ => ?_) (fun _ => ?_)
      | refine WD_cmp rfl rfl rfl rfl (fun _ => ?_) (fun _ => ?_))
    all_goals rw [hae, Bool.eq_false_iff.2 hin]; simp

end Go.Proofs.Ytgjoeoojplbhpaa
