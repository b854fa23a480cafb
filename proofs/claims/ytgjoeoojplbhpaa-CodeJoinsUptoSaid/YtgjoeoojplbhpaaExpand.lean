/-
  Whether a code's step has what its kind says; the constructor whose code a row is.
-/
import Derived.Test.YtgjoeoojplbhpaaCompile
namespace Go.Proofs.Ytgjoeoojplbhpaa
set_option linter.unusedSimpArgs false
set_option linter.unusedVariables false
open Go.Aw Go.RowKit
attribute [local irreducible] WL AC WD MStep OkOp

theorem formed_spec (x : Cd) (hx : x.size ≤ 1048576) : FC Try.prog 29 [aD x] (.bool (formedD x)) := by
  unfold Cd.size at hx
  have hl1 := len_le_sizes x.dom
  have hl2 := len_le_sizes x.idx
  refine FC_intro hty Try.func29 rfl rfl rfl fun w0 => ?_
  repeat' (first
    | refine WL_callB rfl (none_spec _) rfl (fun _ => ?_) (fun _ => ?_)
    | refine WL_p hty rfl rfl ?_
    | refine WL_nil ?_
    | refine AC_seq ?_
    | refine AC_region ?_
    | refine AC_block ?_
    | refine AC_skip ?_
    | refine AC_condT rfl ?_
    | refine AC_condF rfl ?_
    | refine AC_exit ?_
    | refine AC_ret ?_
    | refine WL_ung rfl rfl ?_
    | refine WL_offT rfl rfl rfl ?_
    | refine WL_offF rfl rfl rfl ?_
    | refine WL_offU rfl rfl rfl ?_
    | refine WL_m rfl (m_idxN hty rfl rfl rfl (by assumption) rfl) ?_
    | refine ends_bool rfl ?_
    | refine WL_cmp rfl rfl rfl rfl (fun _ => ?_) (fun _ => ?_)
    | refine AC_cond rfl (fun _ => ?_) (fun _ => ?_))
  all_goals (try simp only [rsT_length] at *)
  all_goals (try rw [wrap_ok (by omega) (by omega)] at *)
  all_goals simp_all [formedD]

def mkE (sort : Int) (l : List Cd) (A : List Ar) (idx : List Tm) (dec : Tm) (j : Nat) : AS := match A with
  | [] => ⟨envOf [(1, sD l), (4, .ptr 4 0), (6, .ptr 6 0), (11, sD l), (12, .int .i64 ((rsD l).length : Nat)), (13, .int .i64 (j : Nat))],
      bkOf [(4, .box [.int .i64 0, .lst 7 [] true, .lst 3 [] true, .int .i64 0, .int .i64 0, .lst 3 [] true]), (6, .box [.int .i64 sort, .lst 7 [] true, sT idx, .int .i64 dec.kind, .int .i64 dec.num, sT dec.kids])]⟩
  | a :: r => ⟨envOf [(1, sD l), (4, .ptr 4 0), (6, .ptr 6 0), (11, sD l), (12, .int .i64 ((rsD l).length : Nat)), (13, .int .i64 (j : Nat))],
      bkOf [(4, .box [.int .i64 0, .lst 7 [] true, .lst 3 [] true, .int .i64 0, .int .i64 0, .lst 3 [] true]), (6, .box [.int .i64 sort, .arr 2006, sT idx, .int .i64 dec.kind, .int .i64 dec.num, sT dec.kids]), (2006, .arr 53 7 (rsA (a :: r)) false)]⟩

def IxE (l : List Cd) (j : Nat) : List Tm := if j < l.length then [] else match l.getLast? with | some x => x.idx | none => []
def DcE (l : List Cd) (j : Nat) : Tm := if j < l.length then zT else match l.getLast? with | some x => x.dec | none => zT

theorem exp_bad {sort : Int} {l : List Cd} {j : Nat} {x : Cd} (hx : l[j]? = some x) (h : ¬ (formedD x = true ∧ (x.kind = 1 ↔ j + 1 = l.length))) : expand sort l = (zC, 12) := by
  have : okRow l = false := by
    cases q : okRow l with
    | false => rfl
    | true => exact absurd (okRow_iff.1 q j x hx) h
  unfold expand
  rw [this]

theorem exp_step {l : List Cd} {j : Nat} {x : Cd} (hx : l[j]? = some x) (hI : ∀ i y, i < j → l[i]? = some y → formedD y = true ∧ (y.kind = 1 ↔ i + 1 = l.length)) (hf : formedD x = true) (hk : x.kind = 1 ↔ j + 1 = l.length) :
    ∀ i y, i < j + 1 → l[i]? = some y → formedD y = true ∧ (y.kind = 1 ↔ i + 1 = l.length) := by
  intro i y hi hy
  rcases Nat.lt_or_ge i j with q | q
  · exact hI i y q hy
  · obtain rfl : i = j := by omega
    rw [hx] at hy
    obtain rfl := Option.some.inj hy
    exact ⟨hf, hk⟩

theorem last_of {l : List Cd} {j : Nat} {x : Cd} (hx : l[j]? = some x) (hj : j + 1 = l.length) : l.getLast? = some x := by
  rw [List.getLast?_eq_getElem?, ← hj, Nat.add_sub_cancel]; exact hx

set_option maxHeartbeats 4000000 in
theorem expand_spec (sort : Int) (l : List Cd) (hs : sizesD l ≤ 1048576) : FC Try.prog 17 [.int .i64 sort, sD l] (.tup [aC (expand sort l).1, .int .i64 (expand sort l).2]) := by
  have hlen := len_le_sizesD l
  refine FC_intro hty Try.func17 rfl rfl rfl fun w0 => ?_
  repeat' (first
    | refine WL_p hty rfl rfl ?_
    | refine WL_nil ?_
    | refine AC_seq ?_
    | refine AC_region ?_
    | refine AC_block ?_
    | refine AC_skip ?_
    | refine AC_condT rfl ?_
    | refine AC_condF rfl ?_
    | refine AC_exit ?_
    | refine AC_ret ?_
    | refine WL_ung rfl rfl ?_
    | refine WL_offT rfl rfl rfl ?_
    | refine WL_offF rfl rfl rfl ?_
    | refine WL_offU rfl rfl rfl ?_
    | refine WL_m rfl (m_idxN hty rfl rfl rfl (by assumption) rfl) ?_
    | refine ends_bool rfl ?_
    | refine WL_cmp rfl rfl rfl rfl (fun _ => ?_) (fun _ => ?_)
    | refine AC_cond rfl (fun _ => ?_) (fun _ => ?_))
  refine AC_for l.length (fun j => ∀ i x, i < j → l[i]? = some x → formedD x = true ∧ (x.kind = 1 ↔ i + 1 = l.length)) (fun j => mkE sort l (((l.take (min j (l.length - 1))).map argOf)) (IxE l j) (DcE l j) j) ?_ (fun i x h => by omega) ?_
  · have h1 : (l.take (min 0 (l.length - 1))).map argOf = [] := by simp
    have h2 : IxE l 0 = [] := by
      unfold IxE
      split
      · rfl
      · have : l = [] := List.length_eq_zero_iff.1 (by omega)
        subst this; rfl
    have h3 : DcE l 0 = zT := by
      unfold DcE
      split
      · rfl
      · have : l = [] := List.length_eq_zero_iff.1 (by omega)
        subst this; rfl
    simp only [h1, h2, h3]
    refine (less_sub ⟨⟨_, rfl, .inl ⟨.refl _, rfl⟩⟩, ⟨_, rfl, .inl ⟨.refl _, rfl⟩⟩, ⟨_, rfl, .inl ⟨.refl _, rfl⟩⟩, ⟨_, rfl, .inl ⟨.refl _, rfl⟩⟩, ⟨_, rfl, .inl ⟨.refl _, rfl⟩⟩, ⟨_, rfl, .inl ⟨.refl _, rfl⟩⟩, trivial⟩ ⟨⟨⟨_, rfl, .refl _⟩, rfl⟩, ⟨⟨_, rfl, ?_⟩, rfl⟩, trivial⟩)
    refine .box ?_
    repeat' (first | exact Wks.nil | refine Wks.cons (Wk.refl _) ?_ | refine Wks.cons (Wk.full _ _ _) ?_ | refine Wks.cons (Wk.nilF _ _ _) ?_)
  intro j hj hI
  generalize hA : (l.take (min j (l.length - 1))).map argOf = A
  cases A with
  | nil =>
    by_cases hlt : j < l.length
    · obtain ⟨x, hx, hmem⟩ := get_of_lt hlt
      have hxs := size_le_sizesD hmem
      have hxs2 := hxs
      unfold Cd.size at hxs2
      have rx := rsD_get hx
      rw [show IxE l j = [] from if_pos hlt, show DcE l j = zT from if_pos hlt]
      repeat' (first
        | refine WL_p hty rfl rfl ?_
        | refine WL_nil ?_
        | refine AC_seq ?_
        | refine AC_region ?_
        | refine AC_block ?_
        | refine AC_skip ?_
        | refine AC_condT rfl ?_
        | refine AC_condF rfl ?_
        | refine AC_exit ?_
        | refine AC_ret ?_
        | refine WL_ung rfl rfl ?_
        | refine WL_offT rfl rfl rfl ?_
        | refine WL_offF rfl rfl rfl ?_
        | refine WL_offU rfl rfl rfl ?_
        | refine WL_m rfl (m_idxN hty rfl rfl rfl (by assumption) rfl) ?_
        | refine ends_bool rfl ?_)
      refine WL_cmp rfl rfl rfl rfl (fun hc => ?_) (fun hc => absurd (show (j : Int) < ((rsD l).length : Nat) by rw [rsD_length]; omega) hc)
      repeat' (first
        | refine WL_callB rfl (formed_spec x (by omega)) rfl (fun _ => ?_) (fun _ => ?_)
        | refine WL_m rfl (m_neB rfl rfl rfl rfl) ?_
        | refine WD_cons (.inl ⟨rfl, m_call 0 rfl (twins_spec _ (by omega)) rfl rfl rfl⟩) ?_
        | refine WD_cons (.inl ⟨rfl, m_call 0 rfl (twin_spec _ (by omega)) rfl rfl rfl⟩) ?_
        | refine WD_cons (.inl ⟨rfl, m_appF hty 2006 rfl rfl rfl rfl rfl rfl rfl (List.cons_ne_nil _ _) (Nat.le_of_ble_eq_true rfl) rfl rfl rfl⟩) ?_
        | refine AC_drawn [[], [0], [0, 1], [], [3], [0, 1, 2, 3, 4], [0, 1, 2], [0, 1, 2, 3, 4, 5, 6], [0, 1, 2, 3, 4, 5, 6, 7], [0, 1, 2, 3, 4, 5, 6, 7, 8]] rfl rfl ?_
        | refine AC_drawn [[], [0], [], [2], [2, 3], [2, 3, 4], [2, 3, 4, 5], [0, 1, 2, 3, 4, 5, 6], [0, 1, 2, 3, 4, 5, 6, 7], [0, 1, 2, 3, 4, 5, 6, 7, 8]] rfl rfl ?_
        | refine AC_drawn [[], [0], [], [2], [2, 3], [], [5], [], [7], [2, 3, 4, 7, 8], [2, 3, 4, 5, 6, 7, 8, 9], [2, 3, 4, 5, 6, 7, 8, 9, 10], [0, 1, 2, 3, 4, 5, 6, 7, 8, 9, 10, 11], [0, 1, 2, 3, 4, 5, 6, 7, 8, 9, 10, 11, 12], [0, 1, 2, 3, 4, 5, 6, 7, 8, 9, 10, 11, 12, 13]] rfl rfl ?_
        | refine WD_cons (.inl ⟨rfl, stepE_ok hty rfl rfl⟩) ?_
        | refine WD_cons (.inl ⟨rfl, m_idxN hty rfl rfl rfl (by assumption) rfl⟩) ?_
        | refine WD_ung rfl rfl ?_
        | refine WD_offT rfl rfl rfl ?_
        | refine WD_offF rfl rfl rfl ?_
        | refine WD_offU rfl rfl rfl ?_
        | refine WD_nil ⟨by kernel_rfl, ?_⟩
        | refine WL_p hty rfl rfl ?_
        | refine WL_nil ?_
        | refine AC_seq ?_
        | refine AC_region ?_
        | refine AC_block ?_
        | refine AC_skip ?_
        | refine AC_condT rfl ?_
        | refine AC_condF rfl ?_
        | refine AC_exit ?_
        | refine AC_ret ?_
        | refine WL_ung rfl rfl ?_
        | refine WL_offT rfl rfl rfl ?_
        | refine WL_offF rfl rfl rfl ?_
        | refine WL_offU rfl rfl rfl ?_
        | refine WL_m rfl (m_idxN hty rfl rfl rfl (by assumption) rfl) ?_
        | refine ends_bool rfl ?_
        | refine WL_cmp rfl rfl rfl rfl (fun _ => ?_) (fun _ => ?_)
        | refine AC_cond rfl (fun _ => ?_) (fun _ => ?_))
      all_goals (try rw [wrap_ok (by rw [rsD_length]; omega) (by rw [rsD_length]; omega), rsD_length] at *)
      · exfalso; omega
      · exfalso; omega
      · have hj1 : j + 1 = l.length := by omega
        have e1 : (l.take (min (j + 1) (l.length - 1))).map argOf = [] := by rw [← hA, show min (j + 1) (l.length - 1) = min j (l.length - 1) by omega]
        have hla := last_of hx hj1
        have e2 : IxE l (j + 1) = x.idx := by unfold IxE; rw [if_neg (by omega), hla]
        have e3 : DcE l (j + 1) = x.dec := by unfold DcE; rw [if_neg (by omega), hla]
        refine ⟨hlt, exp_step hx hI ‹_› (by constructor <;> intro <;> omega), ?_⟩
        show Less _ (mkE sort l _ _ _ _)
        rw [e1, e2, e3]
        refine (less_sub ⟨⟨_, rfl, .inl ⟨.refl _, rfl⟩⟩, ⟨_, rfl, .inl ⟨.refl _, rfl⟩⟩, ⟨_, rfl, .inl ⟨.refl _, rfl⟩⟩, ⟨_, rfl, .inl ⟨.refl _, rfl⟩⟩, ⟨_, rfl, .inl ⟨.refl _, rfl⟩⟩, ⟨_, rfl, see_eq ?_ rfl⟩, trivial⟩ ⟨⟨⟨_, rfl, .refl _⟩, rfl⟩, ⟨⟨_, rfl, .refl _⟩, rfl⟩, trivial⟩)
        exact congrArg (AV.int .i64) ((wrap_ok (by omega) (by omega)).trans (by omega))
      · rw [exp_bad (sort := sort) hx (by rintro ⟨h1, h2⟩; first | (simp_all; done) | omega)]
        refine ends_wk rfl rfl (.tup (.cons (.agg ?_) (.cons (.refl _) .nil)))
        repeat' (first | exact Wks.nil | refine Wks.cons (Wk.refl _) ?_ | refine Wks.cons (Wk.full _ _ _) ?_ | refine Wks.cons (Wk.nilF _ _ _) ?_)
      · rw [exp_bad (sort := sort) hx (by rintro ⟨h1, h2⟩; first | (simp_all; done) | omega)]
        refine ends_wk rfl rfl (.tup (.cons (.agg ?_) (.cons (.refl _) .nil)))
        repeat' (first | exact Wks.nil | refine Wks.cons (Wk.refl _) ?_ | refine Wks.cons (Wk.full _ _ _) ?_ | refine Wks.cons (Wk.nilF _ _ _) ?_)
      · have hj1 : j + 1 < l.length := by omega
        have hco : argOf x = ⟨false, x.typ, [], 0, []⟩ := by simp [argOf, *]
        have e1 : (l.take (min (j + 1) (l.length - 1))).map argOf = [] ++ [argOf x] := by
          rw [show min j (l.length - 1) = j by omega] at hA
          rw [show min (j + 1) (l.length - 1) = j + 1 by omega, List.take_add_one, hx, Option.toList_some, List.map_append, hA]; rfl
        refine ⟨hlt, exp_step hx hI ‹_› (by constructor <;> intro <;> omega), ?_⟩
        show Less _ (mkE sort l _ _ _ _)
        rw [e1, show IxE l (j + 1) = [] from if_pos hj1, show DcE l (j + 1) = zT from if_pos hj1]
        refine (less_freeze 2006 rfl).trans (less_sub ⟨⟨_, rfl, .inl ⟨.refl _, rfl⟩⟩, ⟨_, rfl, .inl ⟨.refl _, rfl⟩⟩, ⟨_, rfl, .inl ⟨.refl _, rfl⟩⟩, ⟨_, rfl, .inl ⟨.refl _, rfl⟩⟩, ⟨_, rfl, .inl ⟨.refl _, rfl⟩⟩, ⟨_, rfl, see_eq ?_ rfl⟩, trivial⟩ ⟨⟨⟨_, rfl, .refl _⟩, rfl⟩, ⟨⟨_, rfl, .refl _⟩, rfl⟩, ⟨⟨_, rfl, ?_⟩, rfl⟩, trivial⟩)
        · exact congrArg (AV.int .i64) ((wrap_ok (by omega) (by omega)).trans (by omega))
        · rw [hco]
          refine .arr (Wkr.snoc ?_)
          repeat' (first | exact Wks.nil | refine Wks.cons (Wk.refl _) ?_ | refine Wks.cons (Wk.full _ _ _) ?_ | refine Wks.cons (Wk.nilF _ _ _) ?_)
      · have hj1 : j + 1 < l.length := by omega
        have hco : argOf x = ⟨true, zT, x.dom, x.sort, x.idx⟩ := by simp [argOf, *]
        have e1 : (l.take (min (j + 1) (l.length - 1))).map argOf = [] ++ [argOf x] := by
          rw [show min j (l.length - 1) = j by omega] at hA
          rw [show min (j + 1) (l.length - 1) = j + 1 by omega, List.take_add_one, hx, Option.toList_some, List.map_append, hA]; rfl
        refine ⟨hlt, exp_step hx hI ‹_› (by constructor <;> intro <;> omega), ?_⟩
        show Less _ (mkE sort l _ _ _ _)
        rw [e1, show IxE l (j + 1) = [] from if_pos hj1, show DcE l (j + 1) = zT from if_pos hj1]
        refine (less_freeze 2006 rfl).trans (less_sub ⟨⟨_, rfl, .inl ⟨.refl _, rfl⟩⟩, ⟨_, rfl, .inl ⟨.refl _, rfl⟩⟩, ⟨_, rfl, .inl ⟨.refl _, rfl⟩⟩, ⟨_, rfl, .inl ⟨.refl _, rfl⟩⟩, ⟨_, rfl, .inl ⟨.refl _, rfl⟩⟩, ⟨_, rfl, see_eq ?_ rfl⟩, trivial⟩ ⟨⟨⟨_, rfl, .refl _⟩, rfl⟩, ⟨⟨_, rfl, .refl _⟩, rfl⟩, ⟨⟨_, rfl, ?_⟩, rfl⟩, trivial⟩)
        · exact congrArg (AV.int .i64) ((wrap_ok (by omega) (by omega)).trans (by omega))
        · rw [hco]
          refine .arr (Wkr.snoc ?_)
          repeat' (first | exact Wks.nil | refine Wks.cons (Wk.refl _) ?_ | refine Wks.cons (Wk.full _ _ _) ?_ | refine Wks.cons (Wk.nilF _ _ _) ?_)
      · exfalso; rename_i h1 h2 h3 h4 h5; simp [formedD, h2, h4, h5] at h1
      · rw [exp_bad (sort := sort) hx (by rintro ⟨h1, h2⟩; first | (simp_all; done) | omega)]
        refine ends_wk rfl rfl (.tup (.cons (.agg ?_) (.cons (.refl _) .nil)))
        repeat' (first | exact Wks.nil | refine Wks.cons (Wk.refl _) ?_ | refine Wks.cons (Wk.full _ _ _) ?_ | refine Wks.cons (Wk.nilF _ _ _) ?_)
    · obtain rfl : j = l.length := by omega
      repeat' (first
        | refine WL_p hty rfl rfl ?_
        | refine WL_nil ?_
        | refine AC_seq ?_
        | refine AC_region ?_
        | refine AC_block ?_
        | refine AC_skip ?_
        | refine AC_condT rfl ?_
        | refine AC_condF rfl ?_
        | refine AC_exit ?_
        | refine AC_ret ?_
        | refine WL_ung rfl rfl ?_
        | refine WL_offT rfl rfl rfl ?_
        | refine WL_offF rfl rfl rfl ?_
        | refine WL_offU rfl rfl rfl ?_
        | refine WL_m rfl (m_idxN hty rfl rfl rfl (by assumption) rfl) ?_
        | refine ends_bool rfl ?_)
      refine WL_cmp rfl rfl rfl rfl (fun hc => absurd hc (by rw [rsD_length]; omega)) (fun hc => ?_)
      repeat' (first
        | refine WL_p hty rfl rfl ?_
        | refine WL_nil ?_
        | refine AC_seq ?_
        | refine AC_region ?_
        | refine AC_block ?_
        | refine AC_skip ?_
        | refine AC_condT rfl ?_
        | refine AC_condF rfl ?_
        | refine AC_exit ?_
        | refine AC_ret ?_
        | refine WL_ung rfl rfl ?_
        | refine WL_offT rfl rfl rfl ?_
        | refine WL_offF rfl rfl rfl ?_
        | refine WL_offU rfl rfl rfl ?_
        | refine WL_m rfl (m_idxN hty rfl rfl rfl (by assumption) rfl) ?_
        | refine ends_bool rfl ?_
        | refine WL_cmp rfl rfl rfl rfl (fun _ => ?_) (fun _ => ?_)
        | refine AC_cond rfl (fun _ => ?_) (fun _ => ?_))
      · rename_i h0
        rw [rsD_length] at h0
        have : l = [] := List.length_eq_zero_iff.1 (by omega)
        subst this
        refine ends_wk rfl rfl (.tup (.cons (.agg ?_) (.cons (.refl _) .nil)))
        repeat' (first | exact Wks.nil | refine Wks.cons (Wk.refl _) ?_ | refine Wks.cons (Wk.full _ _ _) ?_ | refine Wks.cons (Wk.nilF _ _ _) ?_)
      · rename_i h0
        rw [rsD_length] at h0
        have hpos : 0 < l.length := by omega
        obtain ⟨x, hx, _⟩ := get_of_lt (show l.length - 1 < l.length by omega)
        have hla := last_of hx (by omega)
        have hok : okRow l = true := okRow_iff.2 fun i y hy => hI i y (List.getElem?_eq_some_iff.1 hy).1 hy
        have hdr : l.dropLast.map argOf = ([] : List Ar) := by rw [← hA, List.dropLast_eq_take, show min l.length (l.length - 1) = l.length - 1 by omega]
        have he : expand sort l = (⟨sort, ([] : List Ar), IxE l l.length, DcE l l.length⟩, 0) := by
          unfold expand IxE DcE
          rw [hok, hla, hdr, if_neg (Nat.lt_irrefl _), if_neg (Nat.lt_irrefl _)]
        rw [he]
        refine ends_wk rfl rfl (.tup (.cons (.agg ?_) (.cons (.refl _) .nil)))
        repeat' (first | exact Wks.nil | refine Wks.cons (Wk.refl _) ?_ | refine Wks.cons (Wk.full _ _ _) ?_ | refine Wks.cons (Wk.nilF _ _ _) ?_)
  | cons a0 r0 =>
    by_cases hlt : j < l.length
    · obtain ⟨x, hx, hmem⟩ := get_of_lt hlt
      have hxs := size_le_sizesD hmem
      have hxs2 := hxs
      unfold Cd.size at hxs2
      have rx := rsD_get hx
      have hroom : (rsA (a0 :: r0)).length + 1 ≤ 4194304 := by
        have : (a0 :: r0).length ≤ l.length := by rw [← hA, List.length_map, List.length_take]; omega
        rw [rsA_length]; omega
      rw [show IxE l j = [] from if_pos hlt, show DcE l j = zT from if_pos hlt]
      repeat' (first
        | refine WL_p hty rfl rfl ?_
        | refine WL_nil ?_
        | refine AC_seq ?_
        | refine AC_region ?_
        | refine AC_block ?_
        | refine AC_skip ?_
        | refine AC_condT rfl ?_
        | refine AC_condF rfl ?_
        | refine AC_exit ?_
        | refine AC_ret ?_
        | refine WL_ung rfl rfl ?_
        | refine WL_offT rfl rfl rfl ?_
        | refine WL_offF rfl rfl rfl ?_
        | refine WL_offU rfl rfl rfl ?_
        | refine WL_m rfl (m_idxN hty rfl rfl rfl (by assumption) rfl) ?_
        | refine ends_bool rfl ?_)
      refine WL_cmp rfl rfl rfl rfl (fun hc => ?_) (fun hc => absurd (show (j : Int) < ((rsD l).length : Nat) by rw [rsD_length]; omega) hc)
      repeat' (first
        | refine WL_callB rfl (formed_spec x (by omega)) rfl (fun _ => ?_) (fun _ => ?_)
        | refine WL_m rfl (m_neB rfl rfl rfl rfl) ?_
        | refine WD_cons (.inl ⟨rfl, m_call 0 rfl (twins_spec _ (by omega)) rfl rfl rfl⟩) ?_
        | refine WD_cons (.inl ⟨rfl, m_call 0 rfl (twin_spec _ (by omega)) rfl rfl rfl⟩) ?_
        | refine WD_cons (.inl ⟨rfl, m_appA hty 3006 rfl rfl rfl rfl rfl rfl rfl rfl (List.cons_ne_nil _ _) hroom rfl rfl rfl⟩) ?_
        | refine AC_drawn [[], [0], [0, 1], [], [3], [0, 1, 2, 3, 4], [0, 1, 2], [0, 1, 2, 3, 4, 5, 6], [0, 1, 2, 3, 4, 5, 6, 7], [0, 1, 2, 3, 4, 5, 6, 7, 8]] rfl rfl ?_
        | refine AC_drawn [[], [0], [], [2], [2, 3], [2, 3, 4], [2, 3, 4, 5], [0, 1, 2, 3, 4, 5, 6], [0, 1, 2, 3, 4, 5, 6, 7], [0, 1, 2, 3, 4, 5, 6, 7, 8]] rfl rfl ?_
        | refine AC_drawn [[], [0], [], [2], [2, 3], [], [5], [], [7], [2, 3, 4, 7, 8], [2, 3, 4, 5, 6, 7, 8, 9], [2, 3, 4, 5, 6, 7, 8, 9, 10], [0, 1, 2, 3, 4, 5, 6, 7, 8, 9, 10, 11], [0, 1, 2, 3, 4, 5, 6, 7, 8, 9, 10, 11, 12], [0, 1, 2, 3, 4, 5, 6, 7, 8, 9, 10, 11, 12, 13]] rfl rfl ?_
        | refine WD_cons (.inl ⟨rfl, stepE_ok hty rfl rfl⟩) ?_
        | refine WD_cons (.inl ⟨rfl, m_idxN hty rfl rfl rfl (by assumption) rfl⟩) ?_
        | refine WD_ung rfl rfl ?_
        | refine WD_offT rfl rfl rfl ?_
        | refine WD_offF rfl rfl rfl ?_
        | refine WD_offU rfl rfl rfl ?_
        | refine WD_nil ⟨by kernel_rfl, ?_⟩
        | refine WL_p hty rfl rfl ?_
        | refine WL_nil ?_
        | refine AC_seq ?_
        | refine AC_region ?_
        | refine AC_block ?_
        | refine AC_skip ?_
        | refine AC_condT rfl ?_
        | refine AC_condF rfl ?_
        | refine AC_exit ?_
        | refine AC_ret ?_
        | refine WL_ung rfl rfl ?_
        | refine WL_offT rfl rfl rfl ?_
        | refine WL_offF rfl rfl rfl ?_
        | refine WL_offU rfl rfl rfl ?_
        | refine WL_m rfl (m_idxN hty rfl rfl rfl (by assumption) rfl) ?_
        | refine ends_bool rfl ?_
        | refine WL_cmp rfl rfl rfl rfl (fun _ => ?_) (fun _ => ?_)
        | refine AC_cond rfl (fun _ => ?_) (fun _ => ?_))
      all_goals (try rw [wrap_ok (by rw [rsD_length]; omega) (by rw [rsD_length]; omega), rsD_length] at *)
      · exfalso; omega
      · exfalso; omega
      · have hj1 : j + 1 = l.length := by omega
        have e1 : (l.take (min (j + 1) (l.length - 1))).map argOf = a0 :: r0 := by rw [← hA, show min (j + 1) (l.length - 1) = min j (l.length - 1) by omega]
        have hla := last_of hx hj1
        have e2 : IxE l (j + 1) = x.idx := by unfold IxE; rw [if_neg (by omega), hla]
        have e3 : DcE l (j + 1) = x.dec := by unfold DcE; rw [if_neg (by omega), hla]
        refine ⟨hlt, exp_step hx hI ‹_› (by constructor <;> intro <;> omega), ?_⟩
        show Less _ (mkE sort l _ _ _ _)
        rw [e1, e2, e3]
        refine (less_sub ⟨⟨_, rfl, .inl ⟨.refl _, rfl⟩⟩, ⟨_, rfl, .inl ⟨.refl _, rfl⟩⟩, ⟨_, rfl, .inl ⟨.refl _, rfl⟩⟩, ⟨_, rfl, .inl ⟨.refl _, rfl⟩⟩, ⟨_, rfl, .inl ⟨.refl _, rfl⟩⟩, ⟨_, rfl, see_eq ?_ rfl⟩, trivial⟩ ⟨⟨⟨_, rfl, .refl _⟩, rfl⟩, ⟨⟨_, rfl, .refl _⟩, rfl⟩, ⟨⟨_, rfl, .refl _⟩, rfl⟩, trivial⟩)
        exact congrArg (AV.int .i64) ((wrap_ok (by omega) (by omega)).trans (by omega))
      · rw [exp_bad (sort := sort) hx (by rintro ⟨h1, h2⟩; first | (simp_all; done) | omega)]
        refine ends_wk rfl rfl (.tup (.cons (.agg ?_) (.cons (.refl _) .nil)))
        repeat' (first | exact Wks.nil | refine Wks.cons (Wk.refl _) ?_ | refine Wks.cons (Wk.full _ _ _) ?_ | refine Wks.cons (Wk.nilF _ _ _) ?_)
      · rw [exp_bad (sort := sort) hx (by rintro ⟨h1, h2⟩; first | (simp_all; done) | omega)]
        refine ends_wk rfl rfl (.tup (.cons (.agg ?_) (.cons (.refl _) .nil)))
        repeat' (first | exact Wks.nil | refine Wks.cons (Wk.refl _) ?_ | refine Wks.cons (Wk.full _ _ _) ?_ | refine Wks.cons (Wk.nilF _ _ _) ?_)
      · have hj1 : j + 1 < l.length := by omega
        have hco : argOf x = ⟨false, x.typ, [], 0, []⟩ := by simp [argOf, *]
        have e1 : (l.take (min (j + 1) (l.length - 1))).map argOf = (a0 :: r0) ++ [argOf x] := by
          rw [show min j (l.length - 1) = j by omega] at hA
          rw [show min (j + 1) (l.length - 1) = j + 1 by omega, List.take_add_one, hx, Option.toList_some, List.map_append, hA]; rfl
        refine ⟨hlt, exp_step hx hI ‹_› (by constructor <;> intro <;> omega), ?_⟩
        show Less _ (mkE sort l _ _ _ _)
        rw [e1, show IxE l (j + 1) = [] from if_pos hj1, show DcE l (j + 1) = zT from if_pos hj1]
        refine (less_ren [(2006, 3006)] rfl ⟨⟨_, rfl, .inl ⟨.refl _, rfl⟩⟩, ⟨_, rfl, .inl ⟨.refl _, rfl⟩⟩, ⟨_, rfl, .inl ⟨.refl _, rfl⟩⟩, ⟨_, rfl, .inl ⟨.refl _, rfl⟩⟩, ⟨_, rfl, .inl ⟨.refl _, rfl⟩⟩, ⟨_, rfl, see_eq ?_ rfl⟩, trivial⟩ ⟨⟨⟨_, rfl, .refl _⟩, rfl⟩, ⟨⟨_, rfl, .refl _⟩, rfl⟩, ⟨⟨_, rfl, ?_⟩, rfl⟩, trivial⟩)
        · exact congrArg (AV.int .i64) ((wrap_ok (by omega) (by omega)).trans (by omega))
        · rw [show rsA (a0 :: r0.append [argOf x]) = rsA (a0 :: r0) ++ [cA (argOf x)] from rsA_append (a0 :: r0) [argOf x], hco]
          refine .arr (Wkr.snoc ?_)
          repeat' (first | exact Wks.nil | refine Wks.cons (Wk.refl _) ?_ | refine Wks.cons (Wk.full _ _ _) ?_ | refine Wks.cons (Wk.nilF _ _ _) ?_)
      · have hj1 : j + 1 < l.length := by omega
        have hco : argOf x = ⟨true, zT, x.dom, x.sort, x.idx⟩ := by simp [argOf, *]
        have e1 : (l.take (min (j + 1) (l.length - 1))).map argOf = (a0 :: r0) ++ [argOf x] := by
          rw [show min j (l.length - 1) = j by omega] at hA
          rw [show min (j + 1) (l.length - 1) = j + 1 by omega, List.take_add_one, hx, Option.toList_some, List.map_append, hA]; rfl
        refine ⟨hlt, exp_step hx hI ‹_› (by constructor <;> intro <;> omega), ?_⟩
        show Less _ (mkE sort l _ _ _ _)
        rw [e1, show IxE l (j + 1) = [] from if_pos hj1, show DcE l (j + 1) = zT from if_pos hj1]
        refine (less_ren [(2006, 3006)] rfl ⟨⟨_, rfl, .inl ⟨.refl _, rfl⟩⟩, ⟨_, rfl, .inl ⟨.refl _, rfl⟩⟩, ⟨_, rfl, .inl ⟨.refl _, rfl⟩⟩, ⟨_, rfl, .inl ⟨.refl _, rfl⟩⟩, ⟨_, rfl, .inl ⟨.refl _, rfl⟩⟩, ⟨_, rfl, see_eq ?_ rfl⟩, trivial⟩ ⟨⟨⟨_, rfl, .refl _⟩, rfl⟩, ⟨⟨_, rfl, .refl _⟩, rfl⟩, ⟨⟨_, rfl, ?_⟩, rfl⟩, trivial⟩)
        · exact congrArg (AV.int .i64) ((wrap_ok (by omega) (by omega)).trans (by omega))
        · rw [show rsA (a0 :: r0.append [argOf x]) = rsA (a0 :: r0) ++ [cA (argOf x)] from rsA_append (a0 :: r0) [argOf x], hco]
          refine .arr (Wkr.snoc ?_)
          repeat' (first | exact Wks.nil | refine Wks.cons (Wk.refl _) ?_ | refine Wks.cons (Wk.full _ _ _) ?_ | refine Wks.cons (Wk.nilF _ _ _) ?_)
      · exfalso; rename_i h1 h2 h3 h4 h5; simp [formedD, h2, h4, h5] at h1
      · rw [exp_bad (sort := sort) hx (by rintro ⟨h1, h2⟩; first | (simp_all; done) | omega)]
        refine ends_wk rfl rfl (.tup (.cons (.agg ?_) (.cons (.refl _) .nil)))
        repeat' (first | exact Wks.nil | refine Wks.cons (Wk.refl _) ?_ | refine Wks.cons (Wk.full _ _ _) ?_ | refine Wks.cons (Wk.nilF _ _ _) ?_)
    · obtain rfl : j = l.length := by omega
      repeat' (first
        | refine WL_p hty rfl rfl ?_
        | refine WL_nil ?_
        | refine AC_seq ?_
        | refine AC_region ?_
        | refine AC_block ?_
        | refine AC_skip ?_
        | refine AC_condT rfl ?_
        | refine AC_condF rfl ?_
        | refine AC_exit ?_
        | refine AC_ret ?_
        | refine WL_ung rfl rfl ?_
        | refine WL_offT rfl rfl rfl ?_
        | refine WL_offF rfl rfl rfl ?_
        | refine WL_offU rfl rfl rfl ?_
        | refine WL_m rfl (m_idxN hty rfl rfl rfl (by assumption) rfl) ?_
        | refine ends_bool rfl ?_)
      refine WL_cmp rfl rfl rfl rfl (fun hc => absurd hc (by rw [rsD_length]; omega)) (fun hc => ?_)
      repeat' (first
        | refine WL_p hty rfl rfl ?_
        | refine WL_nil ?_
        | refine AC_seq ?_
        | refine AC_region ?_
        | refine AC_block ?_
        | refine AC_skip ?_
        | refine AC_condT rfl ?_
        | refine AC_condF rfl ?_
        | refine AC_exit ?_
        | refine AC_ret ?_
        | refine WL_ung rfl rfl ?_
        | refine WL_offT rfl rfl rfl ?_
        | refine WL_offF rfl rfl rfl ?_
        | refine WL_offU rfl rfl rfl ?_
        | refine WL_m rfl (m_idxN hty rfl rfl rfl (by assumption) rfl) ?_
        | refine ends_bool rfl ?_
        | refine WL_cmp rfl rfl rfl rfl (fun _ => ?_) (fun _ => ?_)
        | refine AC_cond rfl (fun _ => ?_) (fun _ => ?_))
      · rename_i h0
        rw [rsD_length] at h0
        have : l = [] := List.length_eq_zero_iff.1 (by omega)
        subst this
        refine ends_wk rfl rfl (.tup (.cons (.agg ?_) (.cons (.refl _) .nil)))
        repeat' (first | exact Wks.nil | refine Wks.cons (Wk.refl _) ?_ | refine Wks.cons (Wk.full _ _ _) ?_ | refine Wks.cons (Wk.nilF _ _ _) ?_)
      · rename_i h0
        rw [rsD_length] at h0
        have hpos : 0 < l.length := by omega
        obtain ⟨x, hx, _⟩ := get_of_lt (show l.length - 1 < l.length by omega)
        have hla := last_of hx (by omega)
        have hok : okRow l = true := okRow_iff.2 fun i y hy => hI i y (List.getElem?_eq_some_iff.1 hy).1 hy
        have hdr : l.dropLast.map argOf = (a0 :: r0) := by rw [← hA, List.dropLast_eq_take, show min l.length (l.length - 1) = l.length - 1 by omega]
        have he : expand sort l = (⟨sort, (a0 :: r0), IxE l l.length, DcE l l.length⟩, 0) := by
          unfold expand IxE DcE
          rw [hok, hla, hdr, if_neg (Nat.lt_irrefl _), if_neg (Nat.lt_irrefl _)]
        rw [he]
        refine ends_wk rfl rfl (.tup (.cons (.agg ?_) (.cons (.refl _) .nil)))
        repeat' (first | exact Wks.nil | refine Wks.cons (Wk.refl _) ?_ | refine Wks.cons (Wk.full _ _ _) ?_ | refine Wks.cons (Wk.nilF _ _ _) ?_)

end Go.Proofs.Ytgjoeoojplbhpaa
