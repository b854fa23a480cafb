/-
  The document's answers for terms: Kids, Binds, formed, Check, scoped, Scope.
-/
import Derived.Test.YtgjoeoojplbhpaaSizes
import Derived.Test.YtgjoeoojplbhpaaAw26
namespace Go.Proofs.Ytgjoeoojplbhpaa
set_option linter.unusedSimpArgs false
set_option linter.unusedVariables false
open Go.Aw Go.RowKit
attribute [local irreducible] WL AC WD MStep OkOp

def kidsR (k : Int) : Int :=
  if k = 1 ∨ k = 2 ∨ k = 3 then 0 else if k = 9 ∨ k = 10 then 1 else if k = 4 ∨ k = 5 ∨ k = 6 ∨ k = 7 ∨ k = 12 then 2 else if k = 8 ∨ k = 11 ∨ k = 13 then 3 else -1
def bindsR (k i : Int) : Int := if i = 1 ∧ (k = 4 ∨ k = 5 ∨ k = 7) then 1 else 0
def inR (n lo hi : Int) : Bool := decide (lo ≤ n) && decide (n ≤ hi)
mutual
def formedT : Tm → Bool
  | .mk k n l => decide ((l.length : Int) = kidsR k) && ((decide (l.length ≠ 0) || inR n 0 65535) && (decide (l.length = 0) || decide (n = 0))) && formedTs l
def formedTs : List Tm → Bool
  | [] => true
  | t :: l => formedT t && formedTs l
end
theorem formedTs_all (l : List Tm) : formedTs l = l.all formedT := by
  induction l with
  | nil => rfl
  | cons t l ih => simp [formedTs, ih]
def checkT (t : Tm) : Int := if 6000 < t.size then 4 else if 200 < t.depth then 5 else if formedT t = true then 0 else 1
mutual
def scopedT : Tm → Int → Int → Bool
  | .mk k n l, v, c => if k = 1 then decide (n < v) else if k = 2 then decide (n ≤ 6) else if k = 3 then decide (n < c) else scopedTs k 0 l v c
def scopedTs : Int → Int → List Tm → Int → Int → Bool
  | _, _, [], _, _ => true
  | k, i, t :: l, v, c => scopedT t (v + bindsR k i) c && scopedTs k (i + 1) l v c
end
def scopeT (t : Tm) (v c : Int) : Bool := decide (0 ≤ v) && (decide (0 ≤ c) && (decide (checkT t = 0) && scopedT t (if 1048576 < v then 1048576 else v) c))

theorem kids_spec (k : Int) : FC Try.prog 50 [.int .i64 k] (.int .i64 (kidsR k)) := by
  refine FC_intro hty Try.func50 rfl rfl rfl fun w0 => ?_
  repeat' (first
    | refine WL_p hty rfl rfl ?_
    | refine WL_nil ?_
    | refine AC_seq ?_
    | refine AC_region ?_
    | refine AC_block ?_
    | refine AC_skip ?_
    | refine AC_condT rfl ?_
    | refine AC_condF rfl ?_
    | refine AC_exit ?_
    | refine AC_ret ?_
    | refine WL_ung rfl rfl ?_
    | refine WL_offT rfl rfl rfl ?_
    | refine WL_offF rfl rfl rfl ?_
    | refine WL_offU rfl rfl rfl ?_
    | refine WL_m rfl (m_idxN hty rfl rfl rfl (by assumption) rfl) ?_
    | refine ends_bool rfl ?_
    | refine WL_cmp rfl rfl rfl rfl (fun _ => ?_) (fun _ => ?_)
    | refine AC_cond rfl (fun _ => ?_) (fun _ => ?_))
  all_goals refine ends_int rfl ?_
  all_goals simp only [kidsR]; simp_all

theorem binds_spec (k i : Int) : FC Try.prog 49 [.int .i64 k, .int .i64 i] (.int .i64 (bindsR k i)) := by
  refine FC_intro hty Try.func49 rfl rfl rfl fun w0 => ?_
  repeat' (first
    | refine WL_p hty rfl rfl ?_
    | refine WL_nil ?_
    | refine AC_seq ?_
    | refine AC_region ?_
    | refine AC_block ?_
    | refine AC_skip ?_
    | refine AC_condT rfl ?_
    | refine AC_condF rfl ?_
    | refine AC_exit ?_
    | refine AC_ret ?_
    | refine WL_ung rfl rfl ?_
    | refine WL_offT rfl rfl rfl ?_
    | refine WL_offF rfl rfl rfl ?_
    | refine WL_offU rfl rfl rfl ?_
    | refine WL_m rfl (m_idxN hty rfl rfl rfl (by assumption) rfl) ?_
    | refine ends_bool rfl ?_
    | refine WL_cmp rfl rfl rfl rfl (fun _ => ?_) (fun _ => ?_)
    | refine AC_cond rfl (fun _ => ?_) (fun _ => ?_))
  all_goals refine ends_int rfl ?_
  all_goals simp only [bindsR]; simp_all

theorem rin_spec (n lo hi : Int) : FC Try.prog 51 [.int .i64 n, .int .i64 lo, .int .i64 hi] (.bool (inR n lo hi)) := by
  refine FC_intro hty Try.func51 rfl rfl rfl fun w0 => ?_
  repeat' (first
    | refine WL_p hty rfl rfl ?_
    | refine WL_nil ?_
    | refine AC_seq ?_
    | refine AC_region ?_
    | refine AC_block ?_
    | refine AC_skip ?_
    | refine AC_condT rfl ?_
    | refine AC_condF rfl ?_
    | refine AC_exit ?_
    | refine AC_ret ?_
    | refine WL_ung rfl rfl ?_
    | refine WL_offT rfl rfl rfl ?_
    | refine WL_offF rfl rfl rfl ?_
    | refine WL_offU rfl rfl rfl ?_
    | refine WL_m rfl (m_idxN hty rfl rfl rfl (by assumption) rfl) ?_
    | refine ends_bool rfl ?_
    | refine WL_cmp rfl rfl rfl rfl (fun _ => ?_) (fun _ => ?_)
    | refine AC_cond rfl (fun _ => ?_) (fun _ => ?_))
  all_goals (simp_all [inR] <;> (try intro) <;> omega)

theorem formedT_eq (t : Tm) : formedT t = (decide ((t.kids.length : Int) = kidsR t.kind) && ((decide (t.kids.length ≠ 0) || inR t.num 0 65535) && (decide (t.kids.length = 0) || decide (t.num = 0))) && t.kids.all formedT) := by
  cases t; rw [formedT, formedTs_all]; rfl

set_option maxHeartbeats 4000000 in
theorem formed_all : ∀ n, n ≤ 1048576 → ∀ t : Tm, t.size ≤ n → FC Try.prog 48 [aT t] (.bool (formedT t)) := by
  intro n
  induction n with
  | zero => intro hn t ht; have := t.size_pos; omega
  | succ n ih =>
  intro hn t ht
  have ih := ih (by omega)
  have hs := t.size_eq
  have hlen := len_le_sizes t.kids
  have hfe := formedT_eq t
  refine FC_intro hty Try.func48 rfl rfl rfl fun w0 => ?_
  repeat' (first
    | refine AC_drawn [[], [0], [0, 1], [], [3], [3, 4], [0, 1, 2, 3, 4, 5]] rfl rfl ?_
    | refine WD_call 0 rfl (kids_spec _) rfl rfl rfl ?_
    | refine WL_callB rfl (rin_spec _ _ _) rfl (fun _ => ?_) (fun _ => ?_)
    | refine WD_cons (.inl ⟨rfl, stepE_ok hty rfl rfl⟩) ?_
    | refine WD_cons (.inl ⟨rfl, m_idxN hty rfl rfl rfl (by assumption) rfl⟩) ?_
    | refine WD_ung rfl rfl ?_
    | refine WD_offT rfl rfl rfl ?_
    | refine WD_offF rfl rfl rfl ?_
    | refine WD_offU rfl rfl rfl ?_
    | refine WD_nil ⟨by kernel_rfl, ?_⟩
    | refine WL_p hty rfl rfl ?_
    | refine WL_nil ?_
    | refine AC_seq ?_
    | refine AC_region ?_
    | refine AC_block ?_
    | refine AC_skip ?_
    | refine AC_condT rfl ?_
    | refine AC_condF rfl ?_
    | refine AC_exit ?_
    | refine AC_ret ?_
    | refine WL_ung rfl rfl ?_
    | refine WL_offT rfl rfl rfl ?_
    | refine WL_offF rfl rfl rfl ?_
    | refine WL_offU rfl rfl rfl ?_
    | refine WL_m rfl (m_idxN hty rfl rfl rfl (by assumption) rfl) ?_
    | refine ends_bool rfl ?_
    | refine WL_cmp rfl rfl rfl rfl (fun _ => ?_) (fun _ => ?_)
    | refine AC_cond rfl (fun _ => ?_) (fun _ => ?_)
    | refine WD_cmp rfl rfl rfl rfl (fun _ => ?_) (fun _ => ?_))
  all_goals (try rw [rsT_length] at *)
  all_goals first
    | (rw [hfe, eq_comm, Bool.eq_false_iff]
       intro q
       simp only [Bool.and_eq_true, Bool.or_eq_true, decide_eq_true_eq] at q
       obtain ⟨⟨q1, q2, q3⟩, q4⟩ := q
       rcases q2 with q2 | q2 <;> rcases q3 with q3 | q3 <;> first | omega | simp_all)
    | skip
  all_goals
    have hsh : (decide ((t.kids.length : Int) = kidsR t.kind) && ((decide (t.kids.length ≠ 0) || inR t.num 0 65535) && (decide (t.kids.length = 0) || decide (t.num = 0)))) = true := by
      simp only [Bool.and_eq_true, Bool.or_eq_true, decide_eq_true_eq]
      refine ⟨by omega, ?_, ?_⟩ <;> first | (left; omega) | (right; omega) | (right; assumption)
    rw [hsh, Bool.true_and] at hfe
    refine AC_for t.kids.length (fun j => (t.kids.take j).all formedT = true) (fun j => ⟨envOf [(1, .ptr 1 0), (3, .int .i64 (j : Nat))], bkOf [(1, .box (cT t))]⟩) (less_sub ⟨⟨_, rfl, .inl ⟨.refl _, rfl⟩⟩, ⟨_, rfl, .inl ⟨.refl _, rfl⟩⟩, trivial⟩ ⟨⟨⟨_, rfl, .refl _⟩, rfl⟩, trivial⟩) rfl ?_
    intro j hj hI
    repeat' (first
      | refine WL_p hty rfl rfl ?_
      | refine WL_nil ?_
      | refine AC_seq ?_
      | refine AC_region ?_
      | refine AC_block ?_
      | refine AC_skip ?_
      | refine AC_condT rfl ?_
      | refine AC_condF rfl ?_
      | refine AC_exit ?_
      | refine AC_ret ?_
      | refine WL_ung rfl rfl ?_
      | refine WL_offT rfl rfl rfl ?_
      | refine WL_offF rfl rfl rfl ?_
      | refine WL_offU rfl rfl rfl ?_
      | refine WL_m rfl (m_idxN hty rfl rfl rfl (by assumption) rfl) ?_
      | refine ends_bool rfl ?_)
    refine WL_cmp rfl rfl rfl rfl (fun hc => ?_) (fun hc => ?_)
    · have hlt : j < t.kids.length := by rw [rsT_length] at hc; omega
      obtain ⟨k, hk, hmem⟩ := get_of_lt hlt
      have hks := size_le_sizes hmem
      have rk := rsT_get hk
      repeat' (first
        | refine WL_callB rfl (ih k (by omega)) rfl (fun _ => ?_) (fun _ => ?_)
        | refine WL_p hty rfl rfl ?_
        | refine WL_nil ?_
        | refine AC_seq ?_
        | refine AC_region ?_
        | refine AC_block ?_
        | refine AC_skip ?_
        | refine AC_condT rfl ?_
        | refine AC_condF rfl ?_
        | refine AC_exit ?_
        | refine AC_ret ?_
        | refine WL_ung rfl rfl ?_
        | refine WL_offT rfl rfl rfl ?_
        | refine WL_offF rfl rfl rfl ?_
        | refine WL_offU rfl rfl rfl ?_
        | refine WL_m rfl (m_idxN hty rfl rfl rfl (by assumption) rfl) ?_
        | refine ends_bool rfl ?_
        | refine WL_cmp rfl rfl rfl rfl (fun _ => ?_) (fun _ => ?_)
        | refine AC_cond rfl (fun _ => ?_) (fun _ => ?_))
      · refine ⟨hlt, ?_, (less_sub ⟨⟨_, rfl, .inl ⟨.refl _, rfl⟩⟩, ⟨_, rfl, see_eq ?_ rfl⟩, trivial⟩ ⟨⟨⟨_, rfl, .refl _⟩, rfl⟩, trivial⟩)⟩
        · rw [List.take_add_one, hk, Option.toList_some, List.all_append, hI]; simp [*]
        · exact congrArg (AV.int .i64) ((wrap_ok (by omega) (by omega)).trans (by omega))
      · rw [hfe]
        exact (List.all_eq_false.2 ⟨k, hmem, by simp [*]⟩).symm
    · obtain rfl : j = t.kids.length := by rw [rsT_length] at hc; omega
      rw [List.take_length] at hI
      repeat' (first
        | refine WL_p hty rfl rfl ?_
        | refine WL_nil ?_
        | refine AC_seq ?_
        | refine AC_region ?_
        | refine AC_block ?_
        | refine AC_skip ?_
        | refine AC_condT rfl ?_
        | refine AC_condF rfl ?_
        | refine AC_exit ?_
        | refine AC_ret ?_
        | refine WL_ung rfl rfl ?_
        | refine WL_offT rfl rfl rfl ?_
        | refine WL_offF rfl rfl rfl ?_
        | refine WL_offU rfl rfl rfl ?_
        | refine WL_m rfl (m_idxN hty rfl rfl rfl (by assumption) rfl) ?_
        | refine ends_bool rfl ?_
        | refine WL_cmp rfl rfl rfl rfl (fun _ => ?_) (fun _ => ?_)
        | refine AC_cond rfl (fun _ => ?_) (fun _ => ?_))
      rw [hfe, hI]

theorem formed_spec' (t : Tm) (h : t.size ≤ 1048576) : FC Try.prog 48 [aT t] (.bool (formedT t)) := formed_all 1048576 (by omega) t h

theorem check_spec (t : Tm) (h : t.size ≤ 1048576) : FC Try.prog 46 [aT t] (.int .i64 (checkT t)) := by
  refine FC_intro hty Try.func46 rfl rfl rfl fun w0 => ?_
  repeat' (first
    | refine WL_call 0 rfl (size_spec t h) rfl rfl rfl ?_
    | refine WL_call 0 rfl (depth_spec t h) rfl rfl rfl ?_
    | refine WL_callB rfl (formed_spec' t h) rfl (fun _ => ?_) (fun _ => ?_)
    | refine WL_p hty rfl rfl ?_
    | refine WL_nil ?_
    | refine AC_seq ?_
    | refine AC_region ?_
    | refine AC_block ?_
    | refine AC_skip ?_
    | refine AC_condT rfl ?_
    | refine AC_condF rfl ?_
    | refine AC_exit ?_
    | refine AC_ret ?_
    | refine WL_ung rfl rfl ?_
    | refine WL_offT rfl rfl rfl ?_
    | refine WL_offF rfl rfl rfl ?_
    | refine WL_offU rfl rfl rfl ?_
    | refine WL_m rfl (m_idxN hty rfl rfl rfl (by assumption) rfl) ?_
    | refine ends_bool rfl ?_
    | refine WL_cmp rfl rfl rfl rfl (fun _ => ?_) (fun _ => ?_)
    | refine AC_cond rfl (fun _ => ?_) (fun _ => ?_))
  all_goals refine ends_int rfl ?_
  all_goals unfold checkT
  · rw [if_pos (by omega)]
  · rw [if_neg (by omega), if_pos (by omega)]
  · rw [if_neg (by omega), if_neg (by omega), if_pos (by assumption)]
  · rw [if_neg (by omega), if_neg (by omega), if_neg (by simp [*])]

theorem depth_le_depths {l : List Tm} {t : Tm} (h : t ∈ l) : t.depth ≤ depths l := by
  induction l with
  | nil => cases h
  | cons a l ih =>
    simp only [depths]
    rcases List.mem_cons.1 h with rfl | h
    · omega
    · have := ih h; omega
theorem scopedTs_append (k : Int) (v c : Int) (a b : List Tm) : ∀ i : Int, scopedTs k i (a ++ b) v c = (scopedTs k i a v c && scopedTs k (i + a.length) b v c) := by
  induction a with
  | nil => intro i; simp [scopedTs]
  | cons x a ih =>
    intro i
    simp only [List.cons_append, scopedTs, ih, Bool.and_assoc, List.length_cons]
    rw [show i + 1 + (a.length : Int) = i + ((a.length + 1 : Nat) : Int) by omega]
theorem scopedT_eq (t : Tm) (v c : Int) : scopedT t v c = if t.kind = 1 then decide (t.num < v) else if t.kind = 2 then decide (t.num ≤ 6) else if t.kind = 3 then decide (t.num < c) else scopedTs t.kind 0 t.kids v c := by
  cases t; rw [scopedT]; rfl

set_option maxHeartbeats 4000000 in
theorem scoped_all : ∀ n, n ≤ 1048576 → ∀ (t : Tm) (v c : Int), t.size ≤ n → 0 ≤ v → v + t.depth ≤ 4194304 → FC Try.prog 47 [aT t, .int .i64 v, .int .i64 c] (.bool (scopedT t v c)) := by
  intro n
  induction n with
  | zero => intro hn t v c ht; have := t.size_pos; omega
  | succ n ih =>
  intro hn t v c ht hv0 hv
  have ih := ih (by omega)
  have hs := t.size_eq
  have hdp := t.depth_eq
  have hlen := len_le_sizes t.kids
  have hfe := scopedT_eq t v c
  refine FC_intro hty Try.func47 rfl rfl rfl fun w0 => ?_
  repeat' (first
    | refine WL_p hty rfl rfl ?_
    | refine WL_nil ?_
    | refine AC_seq ?_
    | refine AC_region ?_
    | refine AC_block ?_
    | refine AC_skip ?_
    | refine AC_condT rfl ?_
    | refine AC_condF rfl ?_
    | refine AC_exit ?_
    | refine AC_ret ?_
    | refine WL_ung rfl rfl ?_
    | refine WL_offT rfl rfl rfl ?_
    | refine WL_offF rfl rfl rfl ?_
    | refine WL_offU rfl rfl rfl ?_
    | refine WL_m rfl (m_idxN hty rfl rfl rfl (by assumption) rfl) ?_
    | refine ends_bool rfl ?_
    | refine WL_cmp rfl rfl rfl rfl (fun _ => ?_) (fun _ => ?_)
    | refine AC_cond rfl (fun _ => ?_) (fun _ => ?_))
  · rw [hfe, if_pos (by assumption)]; simp [*]
  · rw [hfe, if_pos (by assumption)]; simp [*]
  · rw [hfe, if_neg (by assumption), if_pos (by assumption)]; simp [*]
  · rw [hfe, if_neg (by assumption), if_pos (by assumption)]; simp [*]
  · rw [hfe, if_neg (by assumption), if_neg (by assumption), if_pos (by assumption)]; simp [*]
  · rw [hfe, if_neg (by assumption), if_neg (by assumption), if_pos (by assumption)]; simp [*]
  rw [if_neg (by assumption), if_neg (by assumption), if_neg (by assumption)] at hfe
  refine AC_for t.kids.length (fun j => scopedTs t.kind 0 (t.kids.take j) v c = true) (fun j => ⟨envOf [(1, .int .i64 v), (2, .int .i64 c), (3, .ptr 3 0), (7, .int .i64 (j : Nat))], bkOf [(3, .box (cT t))]⟩) (less_sub ⟨⟨_, rfl, .inl ⟨.refl _, rfl⟩⟩, ⟨_, rfl, .inl ⟨.refl _, rfl⟩⟩, ⟨_, rfl, .inl ⟨.refl _, rfl⟩⟩, ⟨_, rfl, .inl ⟨.refl _, rfl⟩⟩, trivial⟩ ⟨⟨⟨_, rfl, .refl _⟩, rfl⟩, trivial⟩) rfl ?_
  intro j hj hI
  repeat' (first
    | refine WL_p hty rfl rfl ?_
    | refine WL_nil ?_
    | refine AC_seq ?_
    | refine AC_region ?_
    | refine AC_block ?_
    | refine AC_skip ?_
    | refine AC_condT rfl ?_
    | refine AC_condF rfl ?_
    | refine AC_exit ?_
    | refine AC_ret ?_
    | refine WL_ung rfl rfl ?_
    | refine WL_offT rfl rfl rfl ?_
    | refine WL_offF rfl rfl rfl ?_
    | refine WL_offU rfl rfl rfl ?_
    | refine WL_m rfl (m_idxN hty rfl rfl rfl (by assumption) rfl) ?_
    | refine ends_bool rfl ?_)
  refine WL_cmp rfl rfl rfl rfl (fun hc => ?_) (fun hc => ?_)
  · have hlt : j < t.kids.length := by rw [rsT_length] at hc; omega
    obtain ⟨k, hk, hmem⟩ := get_of_lt hlt
    have hks := size_le_sizes hmem
    have hkd := depth_le_depths hmem
    have rk := rsT_get hk
    have hbi : 0 ≤ bindsR t.kind (j : Nat) ∧ bindsR t.kind (j : Nat) ≤ 1 := by unfold bindsR; split <;> omega
    have hwr : IntKind.i64.wrap (v + bindsR t.kind (j : Nat)) = v + bindsR t.kind (j : Nat) := wrap_ok (n := v + bindsR t.kind (j : Nat)) (by omega) (by omega)
    have hkc := ih k (v + bindsR t.kind (j : Nat)) c (by omega) (by omega) (by omega)
    rw [← hwr] at hkc
    have hsp : scopedTs t.kind 0 t.kids v c = (scopedTs t.kind 0 (t.kids.take j) v c && (scopedT k (v + bindsR t.kind (j : Nat)) c && scopedTs t.kind (0 + (j : Nat) + 1) (t.kids.drop (j + 1)) v c)) := by
      conv => lhs; rw [← List.take_append_drop j t.kids, scopedTs_append, List.drop_eq_getElem_cons hlt, scopedTs]
      have h1 : (t.kids.take j).length = j := by rw [List.length_take]; omega
      have h2 : t.kids[j] = k := by rw [List.getElem?_eq_getElem hlt] at hk; exact Option.some.inj hk
      rw [h1, h2, Int.zero_add]
    have hst : scopedTs t.kind 0 (t.kids.take (j + 1)) v c = (scopedTs t.kind 0 (t.kids.take j) v c && scopedT k (v + bindsR t.kind (j : Nat)) c) := by
      have h1 : (t.kids.take j).length = j := by rw [List.length_take]; omega
      rw [List.take_add_one, hk, Option.toList_some, scopedTs_append, h1]
      simp [scopedTs]
    repeat' (first
      | refine AC_drawn [[], [0], [], [0, 1, 2], [0, 1, 2, 3], [], [], [6], [], [6, 7, 8], [5, 6, 7, 8, 9], [], [0, 1, 2, 3, 4, 5, 6, 7, 8, 9, 10, 11], [0, 1, 2, 3, 4, 5, 6, 7, 8, 9, 10, 11, 12]] rfl rfl ?_
      | refine WD_call 0 rfl (binds_spec _ _) rfl rfl rfl ?_
      | refine WD_callB rfl hkc rfl (fun _ => ?_) (fun _ => ?_)
      | refine WD_cons (.inl ⟨rfl, stepE_ok hty rfl rfl⟩) ?_
      | refine WD_cons (.inl ⟨rfl, m_idxN hty rfl rfl rfl (by assumption) rfl⟩) ?_
      | refine WD_ung rfl rfl ?_
      | refine WD_offT rfl rfl rfl ?_
      | refine WD_offF rfl rfl rfl ?_
      | refine WD_offU rfl rfl rfl ?_
      | refine WD_nil ⟨by kernel_rfl, ?_⟩
      | refine WL_p hty rfl rfl ?_
      | refine WL_nil ?_
      | refine AC_seq ?_
      | refine AC_region ?_
      | refine AC_block ?_
      | refine AC_skip ?_
      | refine AC_condT rfl ?_
      | refine AC_condF rfl ?_
      | refine AC_exit ?_
      | refine AC_ret ?_
      | refine WL_ung rfl rfl ?_
      | refine WL_offT rfl rfl rfl ?_
      | refine WL_offF rfl rfl rfl ?_
      | refine WL_offU rfl rfl rfl ?_
      | refine WL_m rfl (m_idxN hty rfl rfl rfl (by assumption) rfl) ?_
      | refine ends_bool rfl ?_
      | refine WL_cmp rfl rfl rfl rfl (fun _ => ?_) (fun _ => ?_)
      | refine AC_cond rfl (fun _ => ?_) (fun _ => ?_)
      | refine WD_cmp rfl rfl rfl rfl (fun _ => ?_) (fun _ => ?_))
    all_goals (rename_i hb; rw [hwr] at hb)
    · refine ⟨hlt, by rw [hst, hI, hb]; rfl, (less_sub ⟨⟨_, rfl, .inl ⟨.refl _, rfl⟩⟩, ⟨_, rfl, .inl ⟨.refl _, rfl⟩⟩, ⟨_, rfl, .inl ⟨.refl _, rfl⟩⟩, ⟨_, rfl, see_eq ?_ rfl⟩, trivial⟩ ⟨⟨⟨_, rfl, .refl _⟩, rfl⟩, trivial⟩)⟩
      exact congrArg (AV.int .i64) ((wrap_ok (by omega) (by omega)).trans (by omega))
    · rw [hfe, hsp, hb]; simp
  · obtain rfl : j = t.kids.length := by rw [rsT_length] at hc; omega
    rw [List.take_length] at hI
    repeat' (first
      | refine WL_p hty rfl rfl ?_
      | refine WL_nil ?_
      | refine AC_seq ?_
      | refine AC_region ?_
      | refine AC_block ?_
      | refine AC_skip ?_
      | refine AC_condT rfl ?_
      | refine AC_condF rfl ?_
      | refine AC_exit ?_
      | refine AC_ret ?_
      | refine WL_ung rfl rfl ?_
      | refine WL_offT rfl rfl rfl ?_
      | refine WL_offF rfl rfl rfl ?_
      | refine WL_offU rfl rfl rfl ?_
      | refine WL_m rfl (m_idxN hty rfl rfl rfl (by assumption) rfl) ?_
      | refine ends_bool rfl ?_
      | refine WL_cmp rfl rfl rfl rfl (fun _ => ?_) (fun _ => ?_)
      | refine AC_cond rfl (fun _ => ?_) (fun _ => ?_))
    rw [hfe, hI]

theorem scope_spec (t : Tm) (v c : Int) (h : t.size ≤ 1048576) : FC Try.prog 45 [aT t, .int .i64 v, .int .i64 c] (.bool (scopeT t v c)) := by
  have hd := t.depth_le
  refine FC_intro hty Try.func45 rfl rfl rfl fun w0 => ?_
  repeat' (first
    | refine WL_call 0 rfl (check_spec t h) rfl rfl rfl ?_
    | refine WL_m rfl (m_min rfl rfl rfl) ?_
    | refine WL_callB rfl (scoped_all 1048576 (by omega) t _ c h (by split <;> omega) (by split <;> omega)) rfl (fun _ => ?_) (fun _ => ?_)
    | refine WL_p hty rfl rfl ?_
    | refine WL_nil ?_
    | refine AC_seq ?_
    | refine AC_region ?_
    | refine AC_block ?_
    | refine AC_skip ?_
    | refine AC_condT rfl ?_
    | refine AC_condF rfl ?_
    | refine AC_exit ?_
    | refine AC_ret ?_
    | refine WL_ung rfl rfl ?_
    | refine WL_offT rfl rfl rfl ?_
    | refine WL_offF rfl rfl rfl ?_
    | refine WL_offU rfl rfl rfl ?_
    | refine WL_m rfl (m_idxN hty rfl rfl rfl (by assumption) rfl) ?_
    | refine ends_bool rfl ?_
    | refine WL_cmp rfl rfl rfl rfl (fun _ => ?_) (fun _ => ?_)
    | refine AC_cond rfl (fun _ => ?_) (fun _ => ?_))
  all_goals simp [scopeT, *]
end Go.Proofs.Ytgjoeoojplbhpaa
