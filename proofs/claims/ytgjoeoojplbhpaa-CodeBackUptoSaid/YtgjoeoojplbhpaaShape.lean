/-
  The document's answer: whether a block has the right shape: arguments, constructors.
-/
import Derived.Test.YtgjoeoojplbhpaaRef
namespace Go.Proofs.Ytgjoeoojplbhpaa
set_option linter.unusedSimpArgs false
set_option linter.unusedVariables false
open Go.Aw Go.RowKit
attribute [local irreducible] WL AC WD MStep OkOp

def openT (t : Tm) (v : Int) : Bool := scopeT t v 65536
def openSeq : Int → List Tm → Bool
  | _, [] => true
  | i, t :: l => openT t i && openSeq (i + 1) l
theorem openSeq_append (a b : List Tm) : ∀ i : Int, openSeq i (a ++ b) = (openSeq i a && openSeq (i + a.length) b) := by
  induction a with
  | nil => intro i; simp [openSeq]
  | cons x a ih =>
    intro i
    simp only [List.cons_append, openSeq, ih, Bool.and_assoc, List.length_cons]
    rw [show i + 1 + (a.length : Int) = i + ((a.length + 1 : Nat) : Int) by omega]
theorem openSeq_split {l : List Tm} {j : Nat} {x : Tm} (h : l[j]? = some x) (i : Int) : openSeq i l = (openSeq i (l.take j) && (openT x (i + (j : Nat)) && openSeq (i + (j : Nat) + 1) (l.drop (j + 1)))) := by
  have hlt : j < l.length := (List.getElem?_eq_some_iff.1 h).1
  conv => lhs; rw [← List.take_append_drop j l, openSeq_append, List.drop_eq_getElem_cons hlt, openSeq]
  have h1 : (l.take j).length = j := by rw [List.length_take]; omega
  have h2 : l[j] = x := by rw [List.getElem?_eq_getElem hlt] at h; exact Option.some.inj h
  rw [h1, h2]
theorem openSeq_take_succ {l : List Tm} {j : Nat} {x : Tm} (h : l[j]? = some x) (i : Int) : openSeq i (l.take (j + 1)) = (openSeq i (l.take j) && openT x (i + (j : Nat))) := by
  have hlt : j < l.length := (List.getElem?_eq_some_iff.1 h).1
  have h1 : (l.take j).length = j := by rw [List.length_take]; omega
  rw [List.take_add_one, h, Option.toList_some, openSeq_append, h1]
  simp [openSeq]

/-- How many indices a sort has. -/
def idxN (b : Bl) (s : Int) : Nat := match b.sorts[s.toNat]? with
  | some x => x.idx.length
  | none => 0
def argB (b : Bl) (a : Ar) (i : Int) : Bool := if a.rc = true
  then (decide (a.typ = zT) && (decide (a.dom.length ≤ 12) && (inR a.sort 0 ((b.sorts.length : Int) - 1) && decide (a.idx.length = idxN b a.sort)))) && (openSeq i a.dom && a.idx.all fun t => openT t (i + a.dom.length))
  else openT a.typ i && (decide ((a.dom.length : Int) + a.idx.length = 0) && decide (a.sort = 0))

theorem rnone_spec (t : Tm) : FC Try.prog 30 [aT t] (.bool (decide (t = zT))) := by
  refine FC_intro hty Try.func30 rfl rfl rfl fun w0 => ?_
  repeat' (first
    | refine WL_p hty rfl rfl ?_
    | refine WL_nil ?_
    | refine AC_seq ?_
    | refine AC_region ?_
    | refine AC_block ?_
    | refine AC_skip ?_
    | refine AC_condT rfl ?_
    | refine AC_condF rfl ?_
    | refine AC_exit ?_
    | refine AC_ret ?_
    | refine WL_ung rfl rfl ?_
    | refine WL_offT rfl rfl rfl ?_
    | refine WL_offF rfl rfl rfl ?_
    | refine WL_offU rfl rfl rfl ?_
    | refine WL_m rfl (m_idxN hty rfl rfl rfl (by assumption) rfl) ?_
    | refine ends_bool rfl ?_
    | refine WL_cmp rfl rfl rfl rfl (fun _ => ?_) (fun _ => ?_)
    | refine AC_cond rfl (fun _ => ?_) (fun _ => ?_))
  · rename_i h1 h2 h3
    rw [rsT_length] at h3
    exact (decide_eq_true (Tm.ext h1 h2 (List.length_eq_zero_iff.1 (by omega)))).symm
  · rename_i h3
    rw [rsT_length] at h3
    exact (decide_eq_false fun h => h3 (by rw [h]; rfl)).symm
  · exact (decide_eq_false fun h => by subst h; contradiction).symm
  · exact (decide_eq_false fun h => by subst h; contradiction).symm

theorem in7_spec (n lo hi : Int) : FC Try.prog 35 [.int .i64 n, .int .i64 lo, .int .i64 hi] (.bool (inR n lo hi)) := by
  refine FC_intro hty Try.func35 rfl rfl rfl fun w0 => ?_
  repeat' (first
    | refine WL_p hty rfl rfl ?_
    | refine WL_nil ?_
    | refine AC_seq ?_
    | refine AC_region ?_
    | refine AC_block ?_
    | refine AC_skip ?_
    | refine AC_condT rfl ?_
    | refine AC_condF rfl ?_
    | refine AC_exit ?_
    | refine AC_ret ?_
    | refine WL_ung rfl rfl ?_
    | refine WL_offT rfl rfl rfl ?_
    | refine WL_offF rfl rfl rfl ?_
    | refine WL_offU rfl rfl rfl ?_
    | refine WL_m rfl (m_idxN hty rfl rfl rfl (by assumption) rfl) ?_
    | refine ends_bool rfl ?_
    | refine WL_cmp rfl rfl rfl rfl (fun _ => ?_) (fun _ => ?_)
    | refine AC_cond rfl (fun _ => ?_) (fun _ => ?_))
  all_goals (simp_all [inR] <;> (try intro) <;> omega)

theorem open_spec (t : Tm) (v : Int) (h : t.size ≤ 1048576) : FC Try.prog 37 [aT t, .int .i64 v] (.bool (openT t v)) := by
  refine FC_intro hty Try.func37 rfl rfl rfl fun w0 => ?_
  repeat' (first
    | refine WL_call 0 rfl (scope_spec t v 65536 h) rfl rfl rfl ?_
    | refine WL_p hty rfl rfl ?_
    | refine WL_nil ?_
    | refine AC_seq ?_
    | refine AC_region ?_
    | refine AC_block ?_
    | refine AC_skip ?_
    | refine AC_condT rfl ?_
    | refine AC_condF rfl ?_
    | refine AC_exit ?_
    | refine AC_ret ?_
    | refine WL_ung rfl rfl ?_
    | refine WL_offT rfl rfl rfl ?_
    | refine WL_offF rfl rfl rfl ?_
    | refine WL_offU rfl rfl rfl ?_
    | refine WL_m rfl (m_idxN hty rfl rfl rfl (by assumption) rfl) ?_
    | refine ends_bool rfl ?_
    | refine WL_cmp rfl rfl rfl rfl (fun _ => ?_) (fun _ => ?_)
    | refine AC_cond rfl (fun _ => ?_) (fun _ => ?_))
  all_goals rfl

theorem fc_eq {f : Nat} {args : List AV} {r r' : AV} (h : FC Try.prog f args r) (e : r = r') : FC Try.prog f args r' := e ▸ h

set_option maxRecDepth 4000 in
set_option maxHeartbeats 4000000 in
theorem arg_spec (b : Bl) (a : Ar) (i : Int) (hb : b.size ≤ 1048576) (ha : a.size ≤ 1048576) (hi0 : 0 ≤ i) (hi1 : i ≤ 1048576) : FC Try.prog 36 [aB b, aA a, .int .i64 i] (.bool (argB b a i)) := by
  have hsl := len_le_sizesS b.sorts
  unfold Bl.size at hb
  unfold Ar.size at ha
  have hd := len_le_sizes a.dom
  have hx := len_le_sizes a.idx
  have hw : IntKind.i64.wrap (((rsS b.sorts).length : Int) - 1) = (b.sorts.length : Int) - 1 := by rw [rsS_length]; exact wrap_ok (n := (b.sorts.length : Int) - 1) (by omega) (by omega)
  have hiF := in7_spec a.sort 0 (IntKind.i64.wrap (((rsS b.sorts).length : Int) - 1))
  obtain ⟨rc, tt, dd, so, ix⟩ := a
  simp only at ha hd hx hiF
  have hwd : IntKind.i64.wrap (((rsT dd).length : Int) + (rsT ix).length) = (dd.length : Int) + ix.length := by
    rw [rsT_length, rsT_length]; exact wrap_ok (n := (dd.length : Int) + ix.length) (by omega) (by omega)
  refine FC_intro hty Try.func36 rfl rfl rfl fun w0 => ?_
  cases rc
  · repeat' (first
      | refine WL_callB rfl (open_spec tt i (by omega)) rfl (fun _ => ?_) (fun _ => ?_)
      | refine WL_p hty rfl rfl ?_
      | refine WL_nil ?_
      | refine AC_seq ?_
      | refine AC_region ?_
      | refine AC_block ?_
      | refine AC_skip ?_
      | refine AC_condT rfl ?_
      | refine AC_condF rfl ?_
      | refine AC_exit ?_
      | refine AC_ret ?_
      | refine WL_ung rfl rfl ?_
      | refine WL_offT rfl rfl rfl ?_
      | refine WL_offF rfl rfl rfl ?_
      | refine WL_offU rfl rfl rfl ?_
      | refine WL_m rfl (m_idxN hty rfl rfl rfl (by assumption) rfl) ?_
      | refine ends_bool rfl ?_
      | refine WL_cmp rfl rfl rfl rfl (fun _ => ?_) (fun _ => ?_)
      | refine AC_cond rfl (fun _ => ?_) (fun _ => ?_))
    all_goals show _ = (openT tt i && (decide ((dd.length : Int) + ix.length = 0) && decide (so = 0)))
    · rename_i h1 h2 h3
      rw [h1, decide_eq_true (hwd.symm.trans h2), decide_eq_true h3]; rfl
    · rename_i h1 h2 h3
      rw [h1, decide_eq_true (hwd.symm.trans h2), decide_eq_false h3]; rfl
    · rename_i h1 h2
      rw [h1, decide_eq_false (fun q => h2 (hwd.trans q))]; rfl
    · rename_i h1
      rw [h1]; rfl
  have hae : argB b ⟨true, tt, dd, so, ix⟩ i = ((decide (tt = zT) && (decide (dd.length ≤ 12) && (inR so 0 ((b.sorts.length : Int) - 1) && decide (ix.length = idxN b so)))) && (openSeq i dd && ix.all fun t => openT t (i + dd.length))) := rfl
  by_cases hin : inR so 0 ((b.sorts.length : Int) - 1) = true
  · have hin2 := hin
    simp only [inR, Bool.and_eq_true, decide_eq_true_eq] at hin2
    obtain ⟨s, hs, hsm⟩ := get_of_lt (show so.toNat < b.sorts.length by omega)
    have rs := rsS_get hs
    have hiF := fc_eq hiF (show _ = AV.bool true by rw [hw, hin])
    have hix : idxN b so = s.idx.length := by unfold idxN; rw [hs]
    repeat' (first
      | refine AC_drawn [[], [0], [0, 1], [0, 1, 2], [0, 1, 2, 3], [0, 1, 2, 3, 4], [0, 1, 2, 3, 4, 5], [0, 1, 2, 3, 4, 5, 6], [0, 1, 2, 3, 4, 5, 6, 7], [0, 1, 2, 3, 4, 5, 6, 7, 8], [0, 1, 2, 3, 4, 5, 6, 7, 8, 9], [0, 1, 2, 3, 4, 5, 6, 7, 8, 9, 10], [0, 1, 2, 3, 4, 5, 6, 7, 8, 9, 10, 11], [0, 1, 2, 3, 4, 5, 6, 7, 8, 9, 10], [0, 1, 2, 3, 4, 5, 6, 7, 8, 9, 10, 13], [0, 1, 2, 3, 4, 5, 6, 7, 8, 9, 10, 13, 14], [0, 1, 2, 3, 4, 5, 6, 7, 8, 9, 10, 13, 14, 15], [0, 1, 2, 3, 4, 5, 6, 7, 8, 9, 10, 11, 12, 13, 14, 15, 16], [0, 1, 2, 3, 4, 5, 6, 7, 8, 9, 10, 11, 12, 13, 14, 15, 16, 17], [0, 1, 2, 3, 4, 5, 6, 7, 8, 9, 10, 11, 12, 13, 14, 15, 16, 17, 18], [0, 1, 2, 3, 4, 5, 6, 7, 8, 9, 10, 11, 12, 13, 14, 15, 16, 17, 18, 19], [0, 1, 2, 3, 4, 5, 6, 7, 8, 9, 10, 11, 12, 13, 14, 15, 16, 17, 18, 19, 20], [0, 1, 2, 3, 4, 5, 6, 7, 8, 9, 10, 11, 12, 13, 14, 15, 16, 17, 18, 19, 20, 21], [0, 1, 2, 3, 4, 5, 6, 7, 8, 9, 10, 11, 12, 13, 14, 15, 16, 17, 18, 19, 20, 21, 22], [0, 1, 2, 3, 4, 5, 6, 7, 8, 9, 10, 11, 12, 13, 14, 15, 16, 17, 18, 19, 20], [0, 1, 2, 3, 4, 5, 6, 7, 8, 9, 10, 11, 12, 13, 14, 15, 16, 17, 18, 19, 20, 24], [0, 1, 2, 3, 4, 5, 6, 7, 8, 9, 10, 11, 12, 13, 14, 15, 16, 17, 18, 19, 20], [0, 1, 2, 3, 4, 5, 6, 7, 8, 9, 10, 11, 12, 13, 14, 15, 16, 17, 18, 19, 20, 26], [0, 1, 2, 3, 4, 5, 6, 7, 8, 9, 10, 11, 12, 13, 14, 15, 16, 17, 18, 19, 20, 24, 25, 26, 27], [0, 1, 2, 3, 4, 5, 6, 7, 8, 9, 10, 11, 12, 13, 14, 15, 16, 17, 18, 19, 20, 24, 25, 26, 27, 28], [0, 1, 2, 3, 4, 5, 6, 7, 8, 9, 10, 11, 12, 13, 14, 15, 16, 17, 18, 19, 20, 24, 25, 26, 27, 28, 29], [0, 1, 2, 3, 4, 5, 6, 7, 8, 9, 10, 11, 12, 13, 14, 15, 16, 17, 18, 19, 20, 24, 25, 26, 27, 28, 29, 30], [0, 1, 2, 3, 4, 5, 6, 7, 8, 9, 10, 11, 12, 13, 14, 15, 16, 17, 18, 19, 20, 21, 22, 23, 24, 25, 26, 27, 28, 29, 30, 31], [0, 1, 2, 3, 4, 5, 6, 7, 8, 9, 10, 11, 12, 13, 14, 15, 16, 17, 18, 19, 20, 21, 22, 23, 24, 25, 26, 27, 28, 29, 30, 31, 32]] rfl rfl ?_
      | refine WD_callB rfl (rnone_spec _) rfl (fun _ => ?_) (fun _ => ?_)
      | refine WD_call 0 rfl hiF rfl rfl rfl ?_
      | refine WD_m rfl (m_idxL hty rfl rfl rfl hin2.1 rs rfl) ?_
      | refine WD_cons (.inl ⟨rfl, stepE_ok hty rfl rfl⟩) ?_
      | refine WD_cons (.inl ⟨rfl, m_idxN hty rfl rfl rfl (by assumption) rfl⟩) ?_
      | refine WD_ung rfl rfl ?_
      | refine WD_offT rfl rfl rfl ?_
      | refine WD_offF rfl rfl rfl ?_
      | refine WD_offU rfl rfl rfl ?_
      | refine WD_nil ⟨by kernel_rfl, ?_⟩
      | refine WL_p hty rfl rfl ?_
      | refine WL_nil ?_
      | refine AC_seq ?_
      | refine AC_region ?_
      | refine AC_block ?_
      | refine AC_skip ?_
      | refine AC_condT rfl ?_
      | refine AC_condF rfl ?_
      | refine AC_exit ?_
      | refine AC_ret ?_
      | refine WL_ung rfl rfl ?_
      | refine WL_offT rfl rfl rfl ?_
      | refine WL_offF rfl rfl rfl ?_
      | refine WL_offU rfl rfl rfl ?_
      | refine WL_m rfl (m_idxN hty rfl rfl rfl (by assumption) rfl) ?_
      | refine ends_bool rfl ?_
      | refine WL_cmp rfl rfl rfl rfl (fun _ => ?_) (fun _ => ?_)
      | refine AC_cond rfl (fun _ => ?_) (fun _ => ?_)
      | refine WD_cmp rfl rfl rfl rfl (fun _ => ?_) (fun _ => ?_))
    · rename_i h1 h2
      have h2 : 12 < ((rsT dd).length : Int) := h2
      rw [rsT_length] at h2
      rw [hae, show decide (dd.length ≤ 12) = false from decide_eq_false (by omega)]; simp
    · rename_i h1 h2 h3
      have h3 : ((rsT ix).length : Int) ≠ (rsA s.idx).length := h3
      rw [rsT_length, rsA_length] at h3
      rw [hae, hix, show decide (ix.length = s.idx.length) = false from decide_eq_false (by omega)]; simp
    · rename_i h1 h2 h3
      have h1 : decide (tt = zT) = true := h1
      have h2 : ¬ 12 < ((rsT dd).length : Int) := h2
      have h3 : ¬ ((rsT ix).length : Int) ≠ (rsA s.idx).length := h3
      rw [rsT_length] at h2
      rw [rsT_length, rsA_length] at h3
      rw [h1, hin, show decide (dd.length ≤ 12) = true from decide_eq_true (by omega), hix, show decide (ix.length = s.idx.length) = true from decide_eq_true (by omega)] at hae
      simp only [Bool.true_and] at hae
      clear h1 hiF rs
      rw [hae]
      refine AC_for dd.length (fun j => openSeq i (dd.take j) = true) (fun j => ⟨envOf [(2, .int .i64 i), (3, .ptr 3 0), (4, .ptr 4 0), (7, .int .i64 (j : Nat))],
        bkOf [(3, .box [.lst 6 (rsS b.sorts) false, .lst 6 (rsC b.cons) false, .int .i64 b.elim]), (4, .box (cA ⟨true, tt, dd, so, ix⟩))]⟩) (less_sub ⟨⟨_, rfl, .inl ⟨.refl _, rfl⟩⟩, ⟨_, rfl, .inl ⟨.refl _, rfl⟩⟩, ⟨_, rfl, .inl ⟨.refl _, rfl⟩⟩, ⟨_, rfl, .inl ⟨.refl _, rfl⟩⟩, trivial⟩ ⟨⟨⟨_, rfl, .refl _⟩, rfl⟩, ⟨⟨_, rfl, .refl _⟩, rfl⟩, trivial⟩) rfl ?_
      intro j hj hI
      repeat' (first
        | refine WL_p hty rfl rfl ?_
        | refine WL_nil ?_
        | refine AC_seq ?_
        | refine AC_region ?_
        | refine AC_block ?_
        | refine AC_skip ?_
        | refine AC_condT rfl ?_
        | refine AC_condF rfl ?_
        | refine AC_exit ?_
        | refine AC_ret ?_
        | refine WL_ung rfl rfl ?_
        | refine WL_offT rfl rfl rfl ?_
        | refine WL_offF rfl rfl rfl ?_
        | refine WL_offU rfl rfl rfl ?_
        | refine WL_m rfl (m_idxN hty rfl rfl rfl (by assumption) rfl) ?_
        | refine ends_bool rfl ?_)
      refine WL_cmp rfl rfl rfl rfl (fun hc => ?_) (fun hc => ?_)
      · have hc : (j : Int) < ((rsT dd).length : Int) := hc
        have hlt : j < dd.length := by rw [rsT_length] at hc; omega
        obtain ⟨k, hk, hmem⟩ := get_of_lt hlt
        have hks := size_le_sizes hmem
        have rk := rsT_get hk
        have hwr : IntKind.i64.wrap (i + (j : Nat)) = i + (j : Nat) := wrap_ok (n := i + (j : Nat)) (by omega) (by omega)
        have hop := open_spec k (IntKind.i64.wrap (i + (j : Nat))) (by omega)
        repeat' (first
          | refine WL_callB rfl hop rfl (fun _ => ?_) (fun _ => ?_)
          | refine WL_p hty rfl rfl ?_
          | refine WL_nil ?_
          | refine AC_seq ?_
          | refine AC_region ?_
          | refine AC_block ?_
          | refine AC_skip ?_
          | refine AC_condT rfl ?_
          | refine AC_condF rfl ?_
          | refine AC_exit ?_
          | refine AC_ret ?_
          | refine WL_ung rfl rfl ?_
          | refine WL_offT rfl rfl rfl ?_
          | refine WL_offF rfl rfl rfl ?_
          | refine WL_offU rfl rfl rfl ?_
          | refine WL_m rfl (m_idxN hty rfl rfl rfl (by assumption) rfl) ?_
          | refine ends_bool rfl ?_
          | refine WL_cmp rfl rfl rfl rfl (fun _ => ?_) (fun _ => ?_)
          | refine AC_cond rfl (fun _ => ?_) (fun _ => ?_))
        all_goals (rename_i hb; rw [hwr] at hb)
        · refine ⟨hlt, by rw [openSeq_take_succ hk, hI, hb]; rfl, (less_sub ⟨⟨_, rfl, .inl ⟨.refl _, rfl⟩⟩, ⟨_, rfl, .inl ⟨.refl _, rfl⟩⟩, ⟨_, rfl, .inl ⟨.refl _, rfl⟩⟩, ⟨_, rfl, see_eq ?_ rfl⟩, trivial⟩ ⟨⟨⟨_, rfl, .refl _⟩, rfl⟩, ⟨⟨_, rfl, .refl _⟩, rfl⟩, trivial⟩)⟩
          exact congrArg (AV.int .i64) ((wrap_ok (by omega) (by omega)).trans (by omega))
        · rw [openSeq_split hk, hb]; simp
      · have hc : ¬ (j : Int) < ((rsT dd).length : Int) := hc
        obtain rfl : j = dd.length := by rw [rsT_length] at hc; omega
        rw [List.take_length] at hI
        rw [hI, Bool.true_and]
        repeat' (first
          | refine WL_p hty rfl rfl ?_
          | refine WL_nil ?_
          | refine AC_seq ?_
          | refine AC_region ?_
          | refine AC_block ?_
          | refine AC_skip ?_
          | refine AC_condT rfl ?_
          | refine AC_condF rfl ?_
          | refine AC_exit ?_
          | refine AC_ret ?_
          | refine WL_ung rfl rfl ?_
          | refine WL_offT rfl rfl rfl ?_
          | refine WL_offF rfl rfl rfl ?_
          | refine WL_offU rfl rfl rfl ?_
          | refine WL_m rfl (m_idxN hty rfl rfl rfl (by assumption) rfl) ?_
          | refine ends_bool rfl ?_
          | refine WL_cmp rfl rfl rfl rfl (fun _ => ?_) (fun _ => ?_)
          | refine AC_cond rfl (fun _ => ?_) (fun _ => ?_))
        refine AC_for ix.length (fun j => (ix.take j).all (fun t => openT t (i + dd.length)) = true) (fun j => ⟨envOf [(2, .int .i64 i), (3, .ptr 3 0), (4, .ptr 4 0), (8, .int .i64 (j : Nat))],
          bkOf [(3, .box [.lst 6 (rsS b.sorts) false, .lst 6 (rsC b.cons) false, .int .i64 b.elim]), (4, .box (cA ⟨true, tt, dd, so, ix⟩))]⟩) (less_sub ⟨⟨_, rfl, .inl ⟨.refl _, rfl⟩⟩, ⟨_, rfl, .inl ⟨.refl _, rfl⟩⟩, ⟨_, rfl, .inl ⟨.refl _, rfl⟩⟩, ⟨_, rfl, .inl ⟨.refl _, rfl⟩⟩, trivial⟩ ⟨⟨⟨_, rfl, .refl _⟩, rfl⟩, ⟨⟨_, rfl, .refl _⟩, rfl⟩, trivial⟩) rfl ?_
        intro j hj hI
        repeat' (first
          | refine WL_p hty rfl rfl ?_
          | refine WL_nil ?_
          | refine AC_seq ?_
          | refine AC_region ?_
          | refine AC_block ?_
          | refine AC_skip ?_
          | refine AC_condT rfl ?_
          | refine AC_condF rfl ?_
          | refine AC_exit ?_
          | refine AC_ret ?_
          | refine WL_ung rfl rfl ?_
          | refine WL_offT rfl rfl rfl ?_
          | refine WL_offF rfl rfl rfl ?_
          | refine WL_offU rfl rfl rfl ?_
          | refine WL_m rfl (m_idxN hty rfl rfl rfl (by assumption) rfl) ?_
          | refine ends_bool rfl ?_)
        refine WL_cmp rfl rfl rfl rfl (fun hc => ?_) (fun hc => ?_)
        · have hc : (j : Int) < ((rsT ix).length : Int) := hc
          have hlt : j < ix.length := by rw [rsT_length] at hc; omega
          obtain ⟨k, hk, hmem⟩ := get_of_lt hlt
          have hks := size_le_sizes hmem
          have rk := rsT_get hk
          have hwr : IntKind.i64.wrap (i + ((rsT dd).length : Nat)) = i + (dd.length : Nat) := by rw [rsT_length]; exact wrap_ok (n := i + (dd.length : Nat)) (by omega) (by omega)
          have hop := open_spec k (IntKind.i64.wrap (i + ((rsT dd).length : Nat))) (by omega)
          repeat' (first
            | refine AC_drawn [[], [0], [], [0, 1, 2], [0, 1, 2, 3], [], [], [6], [6, 7], [5, 6, 7, 8], [0, 1, 2, 3, 4, 5, 6, 7, 8, 9], [0, 1, 2, 3, 4, 5, 6, 7, 8, 9, 10]] rfl rfl ?_
            | refine WD_callB rfl hop rfl (fun _ => ?_) (fun _ => ?_)
            | refine WD_cons (.inl ⟨rfl, stepE_ok hty rfl rfl⟩) ?_
            | refine WD_cons (.inl ⟨rfl, m_idxN hty rfl rfl rfl (by assumption) rfl⟩) ?_
            | refine WD_ung rfl rfl ?_
            | refine WD_offT rfl rfl rfl ?_
            | refine WD_offF rfl rfl rfl ?_
            | refine WD_offU rfl rfl rfl ?_
            | refine WD_nil ⟨by kernel_rfl, ?_⟩
            | refine WL_p hty rfl rfl ?_
            | refine WL_nil ?_
            | refine AC_seq ?_
            | refine AC_region ?_
            | refine AC_block ?_
            | refine AC_skip ?_
            | refine AC_condT rfl ?_
            | refine AC_condF rfl ?_
            | refine AC_exit ?_
            | refine AC_ret ?_
            | refine WL_ung rfl rfl ?_
            | refine WL_offT rfl rfl rfl ?_
            | refine WL_offF rfl rfl rfl ?_
            | refine WL_offU rfl rfl rfl ?_
            | refine WL_m rfl (m_idxN hty rfl rfl rfl (by assumption) rfl) ?_
            | refine ends_bool rfl ?_
            | refine WL_cmp rfl rfl rfl rfl (fun _ => ?_) (fun _ => ?_)
            | refine AC_cond rfl (fun _ => ?_) (fun _ => ?_)
            | refine WD_cmp rfl rfl rfl rfl (fun _ => ?_) (fun _ => ?_))
          all_goals (rename_i hb; rw [hwr] at hb)
          · refine ⟨hlt, by rw [List.take_add_one, hk, Option.toList_some, List.all_append, hI]; simp [hb], (less_sub ⟨⟨_, rfl, .inl ⟨.refl _, rfl⟩⟩, ⟨_, rfl, .inl ⟨.refl _, rfl⟩⟩, ⟨_, rfl, .inl ⟨.refl _, rfl⟩⟩, ⟨_, rfl, see_eq ?_ rfl⟩, trivial⟩ ⟨⟨⟨_, rfl, .refl _⟩, rfl⟩, ⟨⟨_, rfl, .refl _⟩, rfl⟩, trivial⟩)⟩
            exact congrArg (AV.int .i64) ((wrap_ok (by omega) (by omega)).trans (by omega))
          · exact (List.all_eq_false.2 ⟨k, hmem, by simp [hb]⟩).symm
        · have hc : ¬ (j : Int) < ((rsT ix).length : Int) := hc
          obtain rfl : j = ix.length := by rw [rsT_length] at hc; omega
          rw [List.take_length] at hI
          repeat' (first
            | refine WL_p hty rfl rfl ?_
            | refine WL_nil ?_
            | refine AC_seq ?_
            | refine AC_region ?_
            | refine AC_block ?_
            | refine AC_skip ?_
            | refine AC_condT rfl ?_
            | refine AC_condF rfl ?_
            | refine AC_exit ?_
            | refine AC_ret ?_
            | refine WL_ung rfl rfl ?_
            | refine WL_offT rfl rfl rfl ?_
            | refine WL_offF rfl rfl rfl ?_
            | refine WL_offU rfl rfl rfl ?_
            | refine WL_m rfl (m_idxN hty rfl rfl rfl (by assumption) rfl) ?_
            | refine ends_bool rfl ?_
            | refine WL_cmp rfl rfl rfl rfl (fun _ => ?_) (fun _ => ?_)
            | refine AC_cond rfl (fun _ => ?_) (fun _ => ?_))
          exact hI.symm
    · rename_i h1
      have h1 : decide (tt = zT) = false := h1
      rw [hae, h1]; rfl
  · have hiF := fc_eq hiF (show _ = AV.bool false by rw [hw, Bool.eq_false_iff.2 hin])
    repeat' (first
      | refine AC_drawn [[], [0], [0, 1], [0, 1, 2], [0, 1, 2, 3], [0, 1, 2, 3, 4], [0, 1, 2, 3, 4, 5], [0, 1, 2, 3, 4, 5, 6], [0, 1, 2, 3, 4, 5, 6, 7], [0, 1, 2, 3, 4, 5, 6, 7, 8], [0, 1, 2, 3, 4, 5, 6, 7, 8, 9], [0, 1, 2, 3, 4, 5, 6, 7, 8, 9, 10], [0, 1, 2, 3, 4, 5, 6, 7, 8, 9, 10, 11], [0, 1, 2, 3, 4, 5, 6, 7, 8, 9, 10], [0, 1, 2, 3, 4, 5, 6, 7, 8, 9, 10, 13], [0, 1, 2, 3, 4, 5, 6, 7, 8, 9, 10, 13, 14], [0, 1, 2, 3, 4, 5, 6, 7, 8, 9, 10, 13, 14, 15], [0, 1, 2, 3, 4, 5, 6, 7, 8, 9, 10, 11, 12, 13, 14, 15, 16], [0, 1, 2, 3, 4, 5, 6, 7, 8, 9, 10, 11, 12, 13, 14, 15, 16, 17], [0, 1, 2, 3, 4, 5, 6, 7, 8, 9, 10, 11, 12, 13, 14, 15, 16, 17, 18], [0, 1, 2, 3, 4, 5, 6, 7, 8, 9, 10, 11, 12, 13, 14, 15, 16, 17, 18, 19], [0, 1, 2, 3, 4, 5, 6, 7, 8, 9, 10, 11, 12, 13, 14, 15, 16, 17, 18, 19, 20], [0, 1, 2, 3, 4, 5, 6, 7, 8, 9, 10, 11, 12, 13, 14, 15, 16, 17, 18, 19, 20, 21], [0, 1, 2, 3, 4, 5, 6, 7, 8, 9, 10, 11, 12, 13, 14, 15, 16, 17, 18, 19, 20, 21, 22], [0, 1, 2, 3, 4, 5, 6, 7, 8, 9, 10, 11, 12, 13, 14, 15, 16, 17, 18, 19, 20], [0, 1, 2, 3, 4, 5, 6, 7, 8, 9, 10, 11, 12, 13, 14, 15, 16, 17, 18, 19, 20, 24], [0, 1, 2, 3, 4, 5, 6, 7, 8, 9, 10, 11, 12, 13, 14, 15, 16, 17, 18, 19, 20], [0, 1, 2, 3, 4, 5, 6, 7, 8, 9, 10, 11, 12, 13, 14, 15, 16, 17, 18, 19, 20, 26], [0, 1, 2, 3, 4, 5, 6, 7, 8, 9, 10, 11, 12, 13, 14, 15, 16, 17, 18, 19, 20, 24, 25, 26, 27], [0, 1, 2, 3, 4, 5, 6, 7, 8, 9, 10, 11, 12, 13, 14, 15, 16, 17, 18, 19, 20, 24, 25, 26, 27, 28], [0, 1, 2, 3, 4, 5, 6, 7, 8, 9, 10, 11, 12, 13, 14, 15, 16, 17, 18, 19, 20, 24, 25, 26, 27, 28, 29], [0, 1, 2, 3, 4, 5, 6, 7, 8, 9, 10, 11, 12, 13, 14, 15, 16, 17, 18, 19, 20, 24, 25, 26, 27, 28, 29, 30], [0, 1, 2, 3, 4, 5, 6, 7, 8, 9, 10, 11, 12, 13, 14, 15, 16, 17, 18, 19, 20, 21, 22, 23, 24, 25, 26, 27, 28, 29, 30, 31], [0, 1, 2, 3, 4, 5, 6, 7, 8, 9, 10, 11, 12, 13, 14, 15, 16, 17, 18, 19, 20, 21, 22, 23, 24, 25, 26, 27, 28, 29, 30, 31, 32]] rfl rfl ?_
      | refine WD_callB rfl (rnone_spec _) rfl (fun _ => ?_) (fun _ => ?_)
      | refine WD_call 0 rfl hiF rfl rfl rfl ?_
      | refine WD_cons (.inl ⟨rfl, stepE_ok hty rfl rfl⟩) ?_
      | refine WD_cons (.inl ⟨rfl, m_idxN hty rfl rfl rfl (by assumption) rfl⟩) ?_
      | refine WD_ung rfl rfl ?_
      | refine WD_offT rfl rfl rfl ?_
      | refine WD_offF rfl rfl rfl ?_
      | refine WD_offU rfl rfl rfl ?_
      | refine WD_nil ⟨by kernel_rfl, ?_⟩
      | refine WL_p hty rfl rfl ?_
      | refine WL_nil ?_
      | refine AC_seq ?_
      | refine AC_region ?_
      | refine AC_block ?_
      | refine AC_skip ?_
      | refine AC_condT rfl ?_
      | refine AC_condF rfl ?_
      | refine AC_exit ?_
      | refine AC_ret ?_
      | refine WL_ung rfl rfl ?_
      | refine WL_offT rfl rfl rfl ?_
      | refine WL_offF rfl rfl rfl ?_
      | refine WL_offU rfl rfl rfl ?_
      | refine WL_m rfl (m_idxN hty rfl rfl rfl (by assumption) rfl) ?_
      | refine ends_bool rfl ?_
      | refine WL_cmp rfl rfl rfl rfl (fun _ => ?_) (fun _ => ?_)
      | refine AC_cond rfl (fun _ => ?_) (fun _ => ?_)
      | refine WD_cmp rfl rfl rfl rfl (fun _ => ?_) (fun _ => ?_))
    all_goals rw [hae, Bool.eq_false_iff.2 hin]; simp

end Go.Proofs.Ytgjoeoojplbhpaa
