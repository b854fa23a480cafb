/-
  The document's answers for terms: Kids, formed, Check.
-/
import Derived.Test.YtpnjflimilamdaaGreatSizes
import Derived.Test.YtpnjflimilamdaaGreatAw26
namespace Go.Proofs.YtpnjflimilamdaaGreat
set_option linter.unusedSimpArgs false
set_option linter.unusedVariables false
open Go.Aw Go.RowKit
attribute [local irreducible] WL AC WD MStep OkOp

def kidsR (k : Int) : Int :=
  if k = 1 ∨ k = 2 ∨ k = 3 then 0 else if k = 9 ∨ k = 10 then 1 else if k = 4 ∨ k = 5 ∨ k = 6 ∨ k = 7 ∨ k = 12 then 2 else if k = 8 ∨ k = 11 ∨ k = 13 then 3 else -1
def bindsR (k i : Int) : Int := if i = 1 ∧ (k = 4 ∨ k = 5 ∨ k = 7) then 1 else 0
def inR (n lo hi : Int) : Bool := decide (lo ≤ n) && decide (n ≤ hi)
mutual
def formedT : Tm → Bool
  | .mk k n l => decide ((l.length : Int) = kidsR k) && ((decide (l.length ≠ 0) || inR n 0 65535) && (decide (l.length = 0) || decide (n = 0))) && formedTs l
def formedTs : List Tm → Bool
  | [] => true
  | t :: l => formedT t && formedTs l
end
theorem formedTs_all (l : List Tm) : formedTs l = l.all formedT := by
  induction l with
  | nil => rfl
  | cons t l ih => simp [formedTs, ih]
def checkT (t : Tm) : Int := if 6000 < t.size then 4 else if 200 < t.depth then 5 else if formedT t = true then 0 else 1
theorem kids_spec (k : Int) : FC Tryz.prog 28 [.int .i64 k] (.int .i64 (kidsR k)) := by
  refine FC_intro hty Tryz.func28 rfl rfl rfl fun w0 => ?_
  repeat' (first
    | refine WL_p hty rfl rfl ?_
    | refine WL_nil ?_
    | refine AC_seq ?_
    | refine AC_region ?_
    | refine AC_block ?_
    | refine AC_skip ?_
    | refine AC_condT rfl ?_
    | refine AC_condF rfl ?_
    | refine AC_exit ?_
    | refine AC_ret ?_
    | refine WL_ung rfl rfl ?_
    | refine WL_offT rfl rfl rfl ?_
    | refine WL_offF rfl rfl rfl ?_
    | refine WL_offU rfl rfl rfl ?_
    | refine WL_m rfl (m_idxN hty rfl rfl rfl (by assumption) rfl) ?_
    | refine ends_bool rfl ?_
    | refine WL_cmp rfl rfl rfl rfl (fun _ => ?_) (fun _ => ?_)
    | refine AC_cond rfl (fun _ => ?_) (fun _ => ?_))
  all_goals refine ends_int rfl ?_
  all_goals simp only [kidsR]; simp_all

theorem rin_spec (n lo hi : Int) : FC Tryz.prog 29 [.int .i64 n, .int .i64 lo, .int .i64 hi] (.bool (inR n lo hi)) := by
  refine FC_intro hty Tryz.func29 rfl rfl rfl fun w0 => ?_
  repeat' (first
    | refine WL_p hty rfl rfl ?_
    | refine WL_nil ?_
    | refine AC_seq ?_
    | refine AC_region ?_
    | refine AC_block ?_
    | refine AC_skip ?_
    | refine AC_condT rfl ?_
    | refine AC_condF rfl ?_
    | refine AC_exit ?_
    | refine AC_ret ?_
    | refine WL_ung rfl rfl ?_
    | refine WL_offT rfl rfl rfl ?_
    | refine WL_offF rfl rfl rfl ?_
    | refine WL_offU rfl rfl rfl ?_
    | refine WL_m rfl (m_idxN hty rfl rfl rfl (by assumption) rfl) ?_
    | refine ends_bool rfl ?_
    | refine WL_cmp rfl rfl rfl rfl (fun _ => ?_) (fun _ => ?_)
    | refine AC_cond rfl (fun _ => ?_) (fun _ => ?_))
  all_goals (simp_all [inR] <;> (try intro) <;> omega)

theorem formedT_eq (t : Tm) : formedT t = (decide ((t.kids.length : Int) = kidsR t.kind) && ((decide (t.kids.length ≠ 0) || inR t.num 0 65535) && (decide (t.kids.length = 0) || decide (t.num = 0))) && t.kids.all formedT) := by
  cases t; rw [formedT, formedTs_all]; rfl

set_option maxHeartbeats 4000000 in
theorem formed_all : ∀ n, n ≤ 1048576 → ∀ t : Tm, t.size ≤ n → FC Tryz.prog 14 [aT t] (.bool (formedT t)) := by
  intro n
  induction n with
  | zero => intro hn t ht; have := t.size_pos; omega
  | succ n ih =>
  intro hn t ht
  have ih := ih (by omega)
  have hs := t.size_eq
  have hlen := len_le_sizes t.kids
  have hfe := formedT_eq t
  refine FC_intro hty Tryz.func14 rfl rfl rfl fun w0 => ?_
  repeat' (first
    | refine AC_drawn [[], [0], [0, 1], [], [3], [3, 4], [0, 1, 2, 3, 4, 5]] rfl rfl ?_
    | refine WD_call 0 rfl (kids_spec _) rfl rfl rfl ?_
    | refine WL_callB rfl (rin_spec _ _ _) rfl (fun _ => ?_) (fun _ => ?_)
    | refine WD_cons (.inl ⟨rfl, stepE_ok hty rfl rfl⟩) ?_
    | refine WD_cons (.inl ⟨rfl, m_idxN hty rfl rfl rfl (by assumption) rfl⟩) ?_
    | refine WD_ung rfl rfl ?_
    | refine WD_offT rfl rfl rfl ?_
    | refine WD_offF rfl rfl rfl ?_
    | refine WD_offU rfl rfl rfl ?_
    | refine WD_nil ⟨by kernel_rfl, ?_⟩
    | refine WL_p hty rfl rfl ?_
    | refine WL_nil ?_
    | refine AC_seq ?_
    | refine AC_region ?_
    | refine AC_block ?_
    | refine AC_skip ?_
    | refine AC_condT rfl ?_
    | refine AC_condF rfl ?_
    | refine AC_exit ?_
    | refine AC_ret ?_
    | refine WL_ung rfl rfl ?_
    | refine WL_offT rfl rfl rfl ?_
    | refine WL_offF rfl rfl rfl ?_
    | refine WL_offU rfl rfl rfl ?_
    | refine WL_m rfl (m_idxN hty rfl rfl rfl (by assumption) rfl) ?_
    | refine ends_bool rfl ?_
    | refine WL_cmp rfl rfl rfl rfl (fun _ => ?_) (fun _ => ?_)
    | refine AC_cond rfl (fun _ => ?_) (fun _ => ?_)
    | refine WD_cmp rfl rfl rfl rfl (fun _ => ?_) (fun _ => ?_))
  all_goals (try rw [rsT_length] at *)
  all_goals first
    | (rw [hfe, eq_comm, Bool.eq_false_iff]
       intro q
       simp only [Bool.and_eq_true, Bool.or_eq_true, decide_eq_true_eq] at q
       obtain ⟨⟨q1, q2, q3⟩, q4⟩ := q
       rcases q2 with q2 | q2 <;> rcases q3 with q3 | q3 <;> first | omega | simp_all)
    | skip
  all_goals
    have hsh : (decide ((t.kids.length : Int) = kidsR t.kind) && ((decide (t.kids.length ≠ 0) || inR t.num 0 65535) && (decide (t.kids.length = 0) || decide (t.num = 0)))) = true := by
      simp only [Bool.and_eq_true, Bool.or_eq_true, decide_eq_true_eq]
      refine ⟨by omega, ?_, ?_⟩ <;> first | (left; omega) | (right; omega) | (right; assumption)
    rw [hsh, Bool.true_and] at hfe
    refine AC_for t.kids.length (fun j => (t.kids.take j).all formedT = true) (fun j => ⟨envOf [(1, .ptr 1 0), (3, .int .i64 (j : Nat))], bkOf [(1, .box (cT t))]⟩) (less_sub ⟨⟨_, rfl, .inl ⟨.refl _, rfl⟩⟩, ⟨_, rfl, .inl ⟨.refl _, rfl⟩⟩, trivial⟩ ⟨⟨⟨_, rfl, .refl _⟩, rfl⟩, trivial⟩) rfl ?_
    intro j hj hI
    repeat' (first
      | refine WL_p hty rfl rfl ?_
      | refine WL_nil ?_
      | refine AC_seq ?_
      | refine AC_region ?_
      | refine AC_block ?_
      | refine AC_skip ?_
      | refine AC_condT rfl ?_
      | refine AC_condF rfl ?_
      | refine AC_exit ?_
      | refine AC_ret ?_
      | refine WL_ung rfl rfl ?_
      | refine WL_offT rfl rfl rfl ?_
      | refine WL_offF rfl rfl rfl ?_
      | refine WL_offU rfl rfl rfl ?_
      | refine WL_m rfl (m_idxN hty rfl rfl rfl (by assumption) rfl) ?_
      | refine ends_bool rfl ?_)
    refine WL_cmp rfl rfl rfl rfl (fun hc => ?_) (fun hc => ?_)
    · have hlt : j < t.kids.length := by rw [rsT_length] at hc; omega
      obtain ⟨k, hk, hmem⟩ := get_of_lt hlt
      have hks := size_le_sizes hmem
      have rk := rsT_get hk
      repeat' (first
        | refine WL_callB rfl (ih k (by omega)) rfl (fun _ => ?_) (fun _ => ?_)
        | refine WL_p hty rfl rfl ?_
        | refine WL_nil ?_
        | refine AC_seq ?_
        | refine AC_region ?_
        | refine AC_block ?_
        | refine AC_skip ?_
        | refine AC_condT rfl ?_
        | refine AC_condF rfl ?_
        | refine AC_exit ?_
        | refine AC_ret ?_
        | refine WL_ung rfl rfl ?_
        | refine WL_offT rfl rfl rfl ?_
        | refine WL_offF rfl rfl rfl ?_
        | refine WL_offU rfl rfl rfl ?_
        | refine WL_m rfl (m_idxN hty rfl rfl rfl (by assumption) rfl) ?_
        | refine ends_bool rfl ?_
        | refine WL_cmp rfl rfl rfl rfl (fun _ => ?_) (fun _ => ?_)
        | refine AC_cond rfl (fun _ => ?_) (fun _ => ?_))
      · refine ⟨hlt, ?_, (less_sub ⟨⟨_, rfl, .inl ⟨.refl _, rfl⟩⟩, ⟨_, rfl, see_eq ?_ rfl⟩, trivial⟩ ⟨⟨⟨_, rfl, .refl _⟩, rfl⟩, trivial⟩)⟩
        · rw [List.take_add_one, hk, Option.toList_some, List.all_append, hI]; simp [*]
        · exact congrArg (AV.int .i64) ((wrap_ok (by omega) (by omega)).trans (by omega))
      · rw [hfe]
        exact (List.all_eq_false.2 ⟨k, hmem, by simp [*]⟩).symm
    · obtain rfl : j = t.kids.length := by rw [rsT_length] at hc; omega
      rw [List.take_length] at hI
      repeat' (first
        | refine WL_p hty rfl rfl ?_
        | refine WL_nil ?_
        | refine AC_seq ?_
        | refine AC_region ?_
        | refine AC_block ?_
        | refine AC_skip ?_
        | refine AC_condT rfl ?_
        | refine AC_condF rfl ?_
        | refine AC_exit ?_
        | refine AC_ret ?_
        | refine WL_ung rfl rfl ?_
        | refine WL_offT rfl rfl rfl ?_
        | refine WL_offF rfl rfl rfl ?_
        | refine WL_offU rfl rfl rfl ?_
        | refine WL_m rfl (m_idxN hty rfl rfl rfl (by assumption) rfl) ?_
        | refine ends_bool rfl ?_
        | refine WL_cmp rfl rfl rfl rfl (fun _ => ?_) (fun _ => ?_)
        | refine AC_cond rfl (fun _ => ?_) (fun _ => ?_))
      rw [hfe, hI]

theorem formed_spec' (t : Tm) (h : t.size ≤ 1048576) : FC Tryz.prog 14 [aT t] (.bool (formedT t)) := formed_all 1048576 (by omega) t h

theorem check_spec (t : Tm) (h : t.size ≤ 1048576) : FC Tryz.prog 6 [aT t] (.int .i64 (checkT t)) := by
  refine FC_intro hty Tryz.func6 rfl rfl rfl fun w0 => ?_
  repeat' (first
    | refine WL_call 0 rfl (size_spec t h) rfl rfl rfl ?_
    | refine WL_call 0 rfl (depth_spec t h) rfl rfl rfl ?_
    | refine WL_callB rfl (formed_spec' t h) rfl (fun _ => ?_) (fun _ => ?_)
    | refine WL_p hty rfl rfl ?_
    | refine WL_nil ?_
    | refine AC_seq ?_
    | refine AC_region ?_
    | refine AC_block ?_
    | refine AC_skip ?_
    | refine AC_condT rfl ?_
    | refine AC_condF rfl ?_
    | refine AC_exit ?_
    | refine AC_ret ?_
    | refine WL_ung rfl rfl ?_
    | refine WL_offT rfl rfl rfl ?_
    | refine WL_offF rfl rfl rfl ?_
    | refine WL_offU rfl rfl rfl ?_
    | refine WL_m rfl (m_idxN hty rfl rfl rfl (by assumption) rfl) ?_
    | refine ends_bool rfl ?_
    | refine WL_cmp rfl rfl rfl rfl (fun _ => ?_) (fun _ => ?_)
    | refine AC_cond rfl (fun _ => ?_) (fun _ => ?_))
  all_goals refine ends_int rfl ?_
  all_goals unfold checkT
  · rw [if_pos (by omega)]
  · rw [if_neg (by omega), if_pos (by omega)]
  · rw [if_neg (by omega), if_neg (by omega), if_pos (by assumption)]
  · rw [if_neg (by omega), if_neg (by omega), if_neg (by simp [*])]
end Go.Proofs.YtpnjflimilamdaaGreat
