/-
  The program's terms: kinds, sizes, depths, whether a term is right; variables, nodes.
-/
import Derived.Test.YtpnjflimilamdaaGreatRefA
import Derived.Test.YtpnjflimilamdaaGreatAw30
namespace Go.Proofs.YtpnjflimilamdaaGreat
set_option linter.unusedSimpArgs false
set_option linter.unusedVariables false
open Go.Aw Go.RowKit
attribute [local irreducible] WL AC WD MStep OkOp

/-! the first one that has a property -/
def idxF {α : Type} (p : α → Bool) : List α → Int
  | [] => -1
  | a :: l => if p a = true then 0 else if idxF p l < 0 then -1 else idxF p l + 1
theorem idxF_none {α : Type} {p : α → Bool} : ∀ {l : List α}, l.any p = false → idxF p l = -1
  | [], _ => rfl
  | a :: l, h => by
    simp only [List.any_cons, Bool.or_eq_false_iff] at h
    simp only [idxF, h.1, idxF_none h.2]; rfl
theorem idxF_hit {α : Type} {p : α → Bool} {a : α} (hp : p a = true) : ∀ {l : List α} {j : Nat}, (l.take j).any p = false → l[j]? = some a → idxF p l = (j : Nat)
  | [], j, _, h => by simp at h
  | b :: l, 0, _, h => by
    obtain rfl : b = a := by simpa using h
    simp only [idxF, hp]; rfl
  | b :: l, j + 1, h0, h => by
    simp only [List.take_succ_cons, List.any_cons, Bool.or_eq_false_iff] at h0
    have := idxF_hit hp (l := l) h0.2 (by simpa using h)
    simp only [idxF, h0.1, this]
    rw [if_neg (by decide), if_neg (by omega)]; omega
theorem idxF_ge {α : Type} {p : α → Bool} : ∀ {l : List α}, 0 ≤ idxF p l ↔ l.any p = true
  | [] => by simp [idxF]
  | a :: l => by
    have := idxF_ge (p := p) (l := l)
    simp only [idxF, List.any_cons, Bool.or_eq_true]
    by_cases h : p a = true
    · rw [if_pos h]; exact ⟨fun _ => .inl h, fun _ => Int.le_refl _⟩
    · rw [if_neg h]
      by_cases h2 : idxF p l < 0
      · rw [if_pos h2]
        refine ⟨fun q => by omega, fun q => ?_⟩
        have := this.2 (q.resolve_left h)
        omega
      · rw [if_neg h2]
        exact ⟨fun _ => .inr (this.1 (by omega)), fun _ => by omega⟩

def rsI (l : List Int) : List (List AV) := l.map fun x => [.int .i64 x]
theorem rsI_length (l : List Int) : (rsI l).length = l.length := by rw [rsI, List.length_map]
theorem rsI_get {l : List Int} {i : Nat} {x : Int} (h : l[i]? = some x) : (rsI l)[i]? = some [.int .i64 x] := by rw [rsI, List.getElem?_map, h]; rfl

theorem index_spec (l : List Int) (x : Int) (full : Bool) (hl : l.length ≤ 1048576) : FC Tryz.prog 92 [.lst 1 (rsI l) full, .int .i64 x] (.int .i64 (idxF (fun y => decide (x = y)) l)) := by
  refine FC_intro hty Tryz.func92 rfl rfl rfl fun w0 => ?_
  repeat' (first
    | refine WL_p hty rfl rfl ?_
    | refine WL_nil ?_
    | refine AC_seq ?_
    | refine AC_region ?_
    | refine AC_block ?_
    | refine AC_skip ?_
    | refine AC_condT rfl ?_
    | refine AC_condF rfl ?_
    | refine AC_exit ?_
    | refine AC_ret ?_
    | refine WL_ung rfl rfl ?_
    | refine WL_offT rfl rfl rfl ?_
    | refine WL_offF rfl rfl rfl ?_
    | refine WL_offU rfl rfl rfl ?_
    | refine WL_m rfl (m_idxN hty rfl rfl rfl (by assumption) rfl) ?_
    | refine ends_bool rfl ?_
    | refine WL_cmp rfl rfl rfl rfl (fun _ => ?_) (fun _ => ?_)
    | refine AC_cond rfl (fun _ => ?_) (fun _ => ?_))
  refine AC_for l.length (fun j => (l.take j).any (fun y => decide (x = y)) = false) (fun j => ⟨envOf [(0, .lst 1 (rsI l) full), (1, .int .i64 x), (7, .int .i64 ((rsI l).length : Nat)), (8, .int .i64 (j : Nat))], bkOf []⟩)
    (less_sub ⟨⟨_, rfl, .inl ⟨.refl _, rfl⟩⟩, ⟨_, rfl, .inl ⟨.refl _, rfl⟩⟩, ⟨_, rfl, .inl ⟨.refl _, rfl⟩⟩, ⟨_, rfl, .inl ⟨.refl _, rfl⟩⟩, trivial⟩ trivial) rfl ?_
  intro j hj hI
  repeat' (first
    | refine WL_p hty rfl rfl ?_
    | refine WL_nil ?_
    | refine AC_seq ?_
    | refine AC_region ?_
    | refine AC_block ?_
    | refine AC_skip ?_
    | refine AC_condT rfl ?_
    | refine AC_condF rfl ?_
    | refine AC_exit ?_
    | refine AC_ret ?_
    | refine WL_ung rfl rfl ?_
    | refine WL_offT rfl rfl rfl ?_
    | refine WL_offF rfl rfl rfl ?_
    | refine WL_offU rfl rfl rfl ?_
    | refine WL_m rfl (m_idxN hty rfl rfl rfl (by assumption) rfl) ?_
    | refine ends_bool rfl ?_)
  refine WL_cmp rfl rfl rfl rfl (fun hc => ?_) (fun hc => ?_)
  · have hlt : j < l.length := by rw [rsI_length] at hc; omega
    obtain ⟨k, hk, hmem⟩ := get_of_lt hlt
    have rk := rsI_get hk
    repeat' (first
      | refine WL_p hty rfl rfl ?_
      | refine WL_nil ?_
      | refine AC_seq ?_
      | refine AC_region ?_
      | refine AC_block ?_
      | refine AC_skip ?_
      | refine AC_condT rfl ?_
      | refine AC_condF rfl ?_
      | refine AC_exit ?_
      | refine AC_ret ?_
      | refine WL_ung rfl rfl ?_
      | refine WL_offT rfl rfl rfl ?_
      | refine WL_offF rfl rfl rfl ?_
      | refine WL_offU rfl rfl rfl ?_
      | refine WL_m rfl (m_idxN hty rfl rfl rfl (by assumption) rfl) ?_
      | refine ends_bool rfl ?_
      | refine WL_cmp rfl rfl rfl rfl (fun _ => ?_) (fun _ => ?_)
      | refine AC_cond rfl (fun _ => ?_) (fun _ => ?_))
    · rename_i hx
      exact ends_int rfl (idxF_hit (by simp [hx]) hI hk).symm
    · rename_i hx
      refine ⟨hlt, ?_, (less_sub ⟨⟨_, rfl, .inl ⟨.refl _, rfl⟩⟩, ⟨_, rfl, .inl ⟨.refl _, rfl⟩⟩, ⟨_, rfl, .inl ⟨.refl _, rfl⟩⟩, ⟨_, rfl, see_eq ?_ rfl⟩, trivial⟩ trivial)⟩
      · rw [any_take_succ hk, hI]; simp [hx]
      · exact congrArg (AV.int .i64) ((wrap_ok (by omega) (by omega)).trans (by omega))
  · obtain rfl : j = l.length := by rw [rsI_length] at hc; omega
    rw [List.take_length] at hI
    repeat' (first
      | refine WL_p hty rfl rfl ?_
      | refine WL_nil ?_
      | refine AC_seq ?_
      | refine AC_region ?_
      | refine AC_block ?_
      | refine AC_skip ?_
      | refine AC_condT rfl ?_
      | refine AC_condF rfl ?_
      | refine AC_exit ?_
      | refine AC_ret ?_
      | refine WL_ung rfl rfl ?_
      | refine WL_offT rfl rfl rfl ?_
      | refine WL_offF rfl rfl rfl ?_
      | refine WL_offU rfl rfl rfl ?_
      | refine WL_m rfl (m_idxN hty rfl rfl rfl (by assumption) rfl) ?_
      | refine ends_bool rfl ?_
      | refine WL_cmp rfl rfl rfl rfl (fun _ => ?_) (fun _ => ?_)
      | refine AC_cond rfl (fun _ => ?_) (fun _ => ?_))
    exact ends_int rfl (idxF_none hI).symm

theorem contains_spec (l : List Int) (x : Int) (full : Bool) (hl : l.length ≤ 1048576) : FC Tryz.prog 69 [.lst 1 (rsI l) full, .int .i64 x] (.bool (l.any fun y => decide (x = y))) := by
  refine FC_intro hty Tryz.func69 rfl rfl rfl fun w0 => ?_
  repeat' (first
    | refine WL_call 0 rfl (index_spec l x full hl) rfl rfl rfl ?_
    | refine WL_p hty rfl rfl ?_
    | refine WL_nil ?_
    | refine AC_seq ?_
    | refine AC_region ?_
    | refine AC_block ?_
    | refine AC_skip ?_
    | refine AC_condT rfl ?_
    | refine AC_condF rfl ?_
    | refine AC_exit ?_
    | refine AC_ret ?_
    | refine WL_ung rfl rfl ?_
    | refine WL_offT rfl rfl rfl ?_
    | refine WL_offF rfl rfl rfl ?_
    | refine WL_offU rfl rfl rfl ?_
    | refine WL_m rfl (m_idxN hty rfl rfl rfl (by assumption) rfl) ?_
    | refine ends_bool rfl ?_
    | refine WL_cmp rfl rfl rfl rfl (fun _ => ?_) (fun _ => ?_)
    | refine AC_cond rfl (fun _ => ?_) (fun _ => ?_))
  · exact (idxF_ge.1 ‹_›).symm
  · rename_i h
    rw [eq_comm, Bool.eq_false_iff]
    exact fun q => h (idxF_ge.2 q)

theorem kbinds_spec (k i : Int) : FC Tryz.prog 44 [.int .i64 k, .int .i64 i] (.int .i64 (bindsR k i)) := by
  have hc := contains_spec [4, 5, 7] k true (by decide)
  refine FC_intro hty Tryz.func44 rfl rfl rfl fun w0 => ?_
  repeat' (first
    | refine WL_callB rfl hc rfl (fun _ => ?_) (fun _ => ?_)
    | refine WL_p hty rfl rfl ?_
    | refine WL_nil ?_
    | refine AC_seq ?_
    | refine AC_region ?_
    | refine AC_block ?_
    | refine AC_skip ?_
    | refine AC_condT rfl ?_
    | refine AC_condF rfl ?_
    | refine AC_exit ?_
    | refine AC_ret ?_
    | refine WL_ung rfl rfl ?_
    | refine WL_offT rfl rfl rfl ?_
    | refine WL_offF rfl rfl rfl ?_
    | refine WL_offU rfl rfl rfl ?_
    | refine WL_m rfl (m_idxN hty rfl rfl rfl (by assumption) rfl) ?_
    | refine ends_bool rfl ?_
    | refine WL_cmp rfl rfl rfl rfl (fun _ => ?_) (fun _ => ?_)
    | refine AC_cond rfl (fun _ => ?_) (fun _ => ?_))
  all_goals refine ends_int rfl ?_
  all_goals simp only [bindsR]; simp_all

theorem kis_spec (k : Int) : FC Tryz.prog 86 [.int .i64 k] (.bool (inR k 1 13)) := by
  refine FC_intro hty Tryz.func86 rfl rfl rfl fun w0 => ?_
  repeat' (first
    | refine WL_p hty rfl rfl ?_
    | refine WL_nil ?_
    | refine AC_seq ?_
    | refine AC_region ?_
    | refine AC_block ?_
    | refine AC_skip ?_
    | refine AC_condT rfl ?_
    | refine AC_condF rfl ?_
    | refine AC_exit ?_
    | refine AC_ret ?_
    | refine WL_ung rfl rfl ?_
    | refine WL_offT rfl rfl rfl ?_
    | refine WL_offF rfl rfl rfl ?_
    | refine WL_offU rfl rfl rfl ?_
    | refine WL_m rfl (m_idxN hty rfl rfl rfl (by assumption) rfl) ?_
    | refine ends_bool rfl ?_
    | refine WL_cmp rfl rfl rfl rfl (fun _ => ?_) (fun _ => ?_)
    | refine AC_cond rfl (fun _ => ?_) (fun _ => ?_))
  all_goals (simp_all [inR] <;> (try intro) <;> omega)

theorem kkids_spec (k : Int) : FC Tryz.prog 60 [.int .i64 k] (.int .i64 (kidsR k)) := by
  refine FC_intro hty Tryz.func60 rfl rfl rfl fun w0 => ?_
  repeat' (first
    | refine WL_callB rfl (kis_spec k) rfl (fun _ => ?_) (fun _ => ?_)
    | refine WL_p hty rfl rfl ?_
    | refine WL_nil ?_
    | refine AC_seq ?_
    | refine AC_region ?_
    | refine AC_block ?_
    | refine AC_skip ?_
    | refine AC_condT rfl ?_
    | refine AC_condF rfl ?_
    | refine AC_exit ?_
    | refine AC_ret ?_
    | refine WL_ung rfl rfl ?_
    | refine WL_offT rfl rfl rfl ?_
    | refine WL_offF rfl rfl rfl ?_
    | refine WL_offU rfl rfl rfl ?_
    | refine WL_m rfl (m_idxN hty rfl rfl rfl (by assumption) rfl) ?_
    | refine ends_bool rfl ?_
    | refine WL_cmp rfl rfl rfl rfl (fun _ => ?_) (fun _ => ?_)
    | refine AC_cond rfl (fun _ => ?_) (fun _ => ?_))
  all_goals refine ends_int rfl ?_
  all_goals simp only [kidsR]
  all_goals first
    | (simp_all; done)
    | (rename_i hq; simp only [inR, Bool.and_eq_true, decide_eq_true_eq, Bool.and_eq_false_iff, decide_eq_false_iff_not] at hq; repeat' split <;> omega)

theorem tsize_all : ∀ n, n ≤ 1048576 → ∀ t : Tm, t.size ≤ n → FC Tryz.prog 33 [aT t] (.int .i64 (t.size : Nat)) := by
  intro n
  induction n with
  | zero => intro hn t ht; have := t.size_pos; omega
  | succ n ih =>
  intro hn t ht
  have ih := ih (by omega)
  have hs := t.size_eq
  have hlen := len_le_sizes t.kids
  refine FC_intro hty Tryz.func33 rfl rfl rfl fun w0 => ?_
  repeat' (first
    | refine WL_p hty rfl rfl ?_
    | refine WL_nil ?_
    | refine AC_seq ?_
    | refine AC_region ?_
    | refine AC_block ?_
    | refine AC_skip ?_
    | refine AC_condT rfl ?_
    | refine AC_condF rfl ?_
    | refine AC_exit ?_
    | refine AC_ret ?_
    | refine WL_ung rfl rfl ?_
    | refine WL_offT rfl rfl rfl ?_
    | refine WL_offF rfl rfl rfl ?_
    | refine WL_offU rfl rfl rfl ?_
    | refine WL_m rfl (m_idxN hty rfl rfl rfl (by assumption) rfl) ?_
    | refine ends_bool rfl ?_
    | refine WL_cmp rfl rfl rfl rfl (fun _ => ?_) (fun _ => ?_)
    | refine AC_cond rfl (fun _ => ?_) (fun _ => ?_))
  refine AC_for t.kids.length (fun _ => True) (fun j => ⟨envOf [(1, .ptr 1 0), (3, .int .i64 ((1 + sizes (t.kids.take j) : Nat) : Int)), (7, sT t.kids), (8, .int .i64 ((rsT t.kids).length : Nat)), (9, .int .i64 (j : Nat))], bkOf [(1, .box (cT t))]⟩)
    (less_sub ⟨⟨_, rfl, .inl ⟨.refl _, rfl⟩⟩, ⟨_, rfl, .inl ⟨.refl _, rfl⟩⟩, ⟨_, rfl, .inl ⟨.refl _, rfl⟩⟩, ⟨_, rfl, .inl ⟨.refl _, rfl⟩⟩, ⟨_, rfl, .inl ⟨.refl _, rfl⟩⟩, trivial⟩ ⟨⟨⟨_, rfl, .refl _⟩, rfl⟩, trivial⟩) trivial ?_
  intro j hj _
  repeat' (first
    | refine WL_p hty rfl rfl ?_
    | refine WL_nil ?_
    | refine AC_seq ?_
    | refine AC_region ?_
    | refine AC_block ?_
    | refine AC_skip ?_
    | refine AC_condT rfl ?_
    | refine AC_condF rfl ?_
    | refine AC_exit ?_
    | refine AC_ret ?_
    | refine WL_ung rfl rfl ?_
    | refine WL_offT rfl rfl rfl ?_
    | refine WL_offF rfl rfl rfl ?_
    | refine WL_offU rfl rfl rfl ?_
    | refine WL_m rfl (m_idxN hty rfl rfl rfl (by assumption) rfl) ?_
    | refine ends_bool rfl ?_)
  refine WL_cmp rfl rfl rfl rfl (fun hc => ?_) (fun hc => ?_)
  · have hlt : j < t.kids.length := by rw [rsT_length] at hc; omega
    obtain ⟨k, hk, hmem⟩ := get_of_lt hlt
    have hks := size_le_sizes hmem
    have htk := sizes_take t.kids (j + 1)
    have hts := sizes_take_succ hk
    have rk := rsT_get hk
    repeat' (first
      | refine WL_call 0 rfl (ih k (by omega)) rfl rfl rfl ?_
      | refine WL_p hty rfl rfl ?_
      | refine WL_nil ?_
      | refine AC_seq ?_
      | refine AC_region ?_
      | refine AC_block ?_
      | refine AC_skip ?_
      | refine AC_condT rfl ?_
      | refine AC_condF rfl ?_
      | refine AC_exit ?_
      | refine AC_ret ?_
      | refine WL_ung rfl rfl ?_
      | refine WL_offT rfl rfl rfl ?_
      | refine WL_offF rfl rfl rfl ?_
      | refine WL_offU rfl rfl rfl ?_
      | refine WL_m rfl (m_idxN hty rfl rfl rfl (by assumption) rfl) ?_
      | refine ends_bool rfl ?_
      | refine WL_cmp rfl rfl rfl rfl (fun _ => ?_) (fun _ => ?_)
      | refine AC_cond rfl (fun _ => ?_) (fun _ => ?_))
    refine ⟨hlt, trivial, (less_sub ⟨⟨_, rfl, .inl ⟨.refl _, rfl⟩⟩, ⟨_, rfl, see_eq ?_ rfl⟩, ⟨_, rfl, .inl ⟨.refl _, rfl⟩⟩, ⟨_, rfl, .inl ⟨.refl _, rfl⟩⟩, ⟨_, rfl, see_eq ?_ rfl⟩, trivial⟩ ⟨⟨⟨_, rfl, .refl _⟩, rfl⟩, trivial⟩)⟩
    · exact congrArg (AV.int .i64) ((wrap_ok (by omega) (by omega)).trans (by omega))
    · exact congrArg (AV.int .i64) ((wrap_ok (by omega) (by omega)).trans (by omega))
  · obtain rfl : j = t.kids.length := by rw [rsT_length] at hc; omega
    repeat' (first
      | refine WL_p hty rfl rfl ?_
      | refine WL_nil ?_
      | refine AC_seq ?_
      | refine AC_region ?_
      | refine AC_block ?_
      | refine AC_skip ?_
      | refine AC_condT rfl ?_
      | refine AC_condF rfl ?_
      | refine AC_exit ?_
      | refine AC_ret ?_
      | refine WL_ung rfl rfl ?_
      | refine WL_offT rfl rfl rfl ?_
      | refine WL_offF rfl rfl rfl ?_
      | refine WL_offU rfl rfl rfl ?_
      | refine WL_m rfl (m_idxN hty rfl rfl rfl (by assumption) rfl) ?_
      | refine ends_bool rfl ?_
      | refine WL_cmp rfl rfl rfl rfl (fun _ => ?_) (fun _ => ?_)
      | refine AC_cond rfl (fun _ => ?_) (fun _ => ?_))
    refine ends_int rfl ?_
    rw [List.take_length]; omega
theorem tsize_spec (t : Tm) (h : t.size ≤ 1048576) : FC Tryz.prog 33 [aT t] (.int .i64 (t.size : Nat)) := tsize_all 1048576 (by omega) t h

theorem tdepth_all : ∀ n, n ≤ 1048576 → ∀ t : Tm, t.size ≤ n → FC Tryz.prog 34 [aT t] (.int .i64 (t.depth : Nat)) := by
  intro n
  induction n with
  | zero => intro hn t ht; have := t.size_pos; omega
  | succ n ih =>
  intro hn t ht
  have ih := ih (by omega)
  have hs := t.size_eq
  have hlen := len_le_sizes t.kids
  refine FC_intro hty Tryz.func34 rfl rfl rfl fun w0 => ?_
  repeat' (first
    | refine WL_p hty rfl rfl ?_
    | refine WL_nil ?_
    | refine AC_seq ?_
    | refine AC_region ?_
    | refine AC_block ?_
    | refine AC_skip ?_
    | refine AC_condT rfl ?_
    | refine AC_condF rfl ?_
    | refine AC_exit ?_
    | refine AC_ret ?_
    | refine WL_ung rfl rfl ?_
    | refine WL_offT rfl rfl rfl ?_
    | refine WL_offF rfl rfl rfl ?_
    | refine WL_offU rfl rfl rfl ?_
    | refine WL_m rfl (m_idxN hty rfl rfl rfl (by assumption) rfl) ?_
    | refine ends_bool rfl ?_
    | refine WL_cmp rfl rfl rfl rfl (fun _ => ?_) (fun _ => ?_)
    | refine AC_cond rfl (fun _ => ?_) (fun _ => ?_))
  refine AC_for t.kids.length (fun _ => True) (fun j => ⟨envOf [(1, .ptr 1 0), (3, .int .i64 ((depths (t.kids.take j) : Nat) : Int)), (7, sT t.kids), (8, .int .i64 ((rsT t.kids).length : Nat)), (9, .int .i64 (j : Nat))], bkOf [(1, .box (cT t))]⟩)
    (less_sub ⟨⟨_, rfl, .inl ⟨.refl _, rfl⟩⟩, ⟨_, rfl, .inl ⟨.refl _, rfl⟩⟩, ⟨_, rfl, .inl ⟨.refl _, rfl⟩⟩, ⟨_, rfl, .inl ⟨.refl _, rfl⟩⟩, ⟨_, rfl, .inl ⟨.refl _, rfl⟩⟩, trivial⟩ ⟨⟨⟨_, rfl, .refl _⟩, rfl⟩, trivial⟩) trivial ?_
  intro j hj _
  repeat' (first
    | refine WL_p hty rfl rfl ?_
    | refine WL_nil ?_
    | refine AC_seq ?_
    | refine AC_region ?_
    | refine AC_block ?_
    | refine AC_skip ?_
    | refine AC_condT rfl ?_
    | refine AC_condF rfl ?_
    | refine AC_exit ?_
    | refine AC_ret ?_
    | refine WL_ung rfl rfl ?_
    | refine WL_offT rfl rfl rfl ?_
    | refine WL_offF rfl rfl rfl ?_
    | refine WL_offU rfl rfl rfl ?_
    | refine WL_m rfl (m_idxN hty rfl rfl rfl (by assumption) rfl) ?_
    | refine ends_bool rfl ?_)
  refine WL_cmp rfl rfl rfl rfl (fun hc => ?_) (fun hc => ?_)
  · have hlt : j < t.kids.length := by rw [rsT_length] at hc; omega
    obtain ⟨k, hk, hmem⟩ := get_of_lt hlt
    have hks := size_le_sizes hmem
    have hts := depths_take_succ hk
    have rk := rsT_get hk
    repeat' (first
      | refine WL_call 0 rfl (ih k (by omega)) rfl rfl rfl ?_
      | refine WL_m rfl (m_max rfl rfl rfl) ?_
      | refine WL_p hty rfl rfl ?_
      | refine WL_nil ?_
      | refine AC_seq ?_
      | refine AC_region ?_
      | refine AC_block ?_
      | refine AC_skip ?_
      | refine AC_condT rfl ?_
      | refine AC_condF rfl ?_
      | refine AC_exit ?_
      | refine AC_ret ?_
      | refine WL_ung rfl rfl ?_
      | refine WL_offT rfl rfl rfl ?_
      | refine WL_offF rfl rfl rfl ?_
      | refine WL_offU rfl rfl rfl ?_
      | refine WL_m rfl (m_idxN hty rfl rfl rfl (by assumption) rfl) ?_
      | refine ends_bool rfl ?_
      | refine WL_cmp rfl rfl rfl rfl (fun _ => ?_) (fun _ => ?_)
      | refine AC_cond rfl (fun _ => ?_) (fun _ => ?_))
    refine ⟨hlt, trivial, (less_sub ⟨⟨_, rfl, .inl ⟨.refl _, rfl⟩⟩, ⟨_, rfl, see_eq ?_ rfl⟩, ⟨_, rfl, .inl ⟨.refl _, rfl⟩⟩, ⟨_, rfl, .inl ⟨.refl _, rfl⟩⟩, ⟨_, rfl, see_eq ?_ rfl⟩, trivial⟩ ⟨⟨⟨_, rfl, .refl _⟩, rfl⟩, trivial⟩)⟩
    · refine congrArg (AV.int .i64) ?_
      rw [hts]; split <;> omega
    · exact congrArg (AV.int .i64) ((wrap_ok (by omega) (by omega)).trans (by omega))
  · obtain rfl : j = t.kids.length := by rw [rsT_length] at hc; omega
    have hd := t.depth_le
    have he := t.depth_eq
    repeat' (first
      | refine WL_p hty rfl rfl ?_
      | refine WL_nil ?_
      | refine AC_seq ?_
      | refine AC_region ?_
      | refine AC_block ?_
      | refine AC_skip ?_
      | refine AC_condT rfl ?_
      | refine AC_condF rfl ?_
      | refine AC_exit ?_
      | refine AC_ret ?_
      | refine WL_ung rfl rfl ?_
      | refine WL_offT rfl rfl rfl ?_
      | refine WL_offF rfl rfl rfl ?_
      | refine WL_offU rfl rfl rfl ?_
      | refine WL_m rfl (m_idxN hty rfl rfl rfl (by assumption) rfl) ?_
      | refine ends_bool rfl ?_
      | refine WL_cmp rfl rfl rfl rfl (fun _ => ?_) (fun _ => ?_)
      | refine AC_cond rfl (fun _ => ?_) (fun _ => ?_))
    refine ends_int rfl ?_
    rw [List.take_length]
    exact (wrap_ok (by omega) (by omega)).trans (by omega)
theorem tdepth_spec (t : Tm) (h : t.size ≤ 1048576) : FC Tryz.prog 34 [aT t] (.int .i64 (t.depth : Nat)) := tdepth_all 1048576 (by omega) t h

theorem indexFunc_spec (g : Nat) (xa : List AV) (hxa : xa.all closed0 = true) (p : Tm → Bool) (l : List Tm) (hl : sizes l ≤ 1048576) (h : ∀ t, t ∈ l → FC Tryz.prog g ([aT t] ++ xa) (.bool (p t))) :
    FC Tryz.prog 87 [sT l, .fn (.func g) [] xa] (.int .i64 (idxF p l)) := by
  have hlen := len_le_sizes l
  refine FC_intro hty Tryz.func87 rfl rfl rfl fun w0 => ?_
  repeat' (first
    | refine WL_p hty rfl rfl ?_
    | refine WL_nil ?_
    | refine AC_seq ?_
    | refine AC_region ?_
    | refine AC_block ?_
    | refine AC_skip ?_
    | refine AC_condT rfl ?_
    | refine AC_condF rfl ?_
    | refine AC_exit ?_
    | refine AC_ret ?_
    | refine WL_ung rfl rfl ?_
    | refine WL_offT rfl rfl rfl ?_
    | refine WL_offF rfl rfl rfl ?_
    | refine WL_offU rfl rfl rfl ?_
    | refine WL_m rfl (m_idxN hty rfl rfl rfl (by assumption) rfl) ?_
    | refine ends_bool rfl ?_
    | refine WL_cmp rfl rfl rfl rfl (fun _ => ?_) (fun _ => ?_)
    | refine AC_cond rfl (fun _ => ?_) (fun _ => ?_))
  refine AC_for l.length (fun j => (l.take j).any p = false) (fun j => ⟨envOf [(0, sT l), (1, .fn (.func g) [] xa), (7, .int .i64 ((rsT l).length : Nat)), (8, .int .i64 (j : Nat))], bkOf []⟩)
    (less_sub ⟨⟨_, rfl, .inl ⟨.refl _, rfl⟩⟩, ⟨_, rfl, .inr ⟨_, ?_, .refl _⟩⟩, ⟨_, rfl, .inl ⟨.refl _, rfl⟩⟩, ⟨_, rfl, .inl ⟨.refl _, rfl⟩⟩, trivial⟩ trivial) rfl ?_
  · simp only [argV, argS, closedS, hxa]; rfl
  intro j hj hI
  repeat' (first
    | refine WL_p hty rfl rfl ?_
    | refine WL_nil ?_
    | refine AC_seq ?_
    | refine AC_region ?_
    | refine AC_block ?_
    | refine AC_skip ?_
    | refine AC_condT rfl ?_
    | refine AC_condF rfl ?_
    | refine AC_exit ?_
    | refine AC_ret ?_
    | refine WL_ung rfl rfl ?_
    | refine WL_offT rfl rfl rfl ?_
    | refine WL_offF rfl rfl rfl ?_
    | refine WL_offU rfl rfl rfl ?_
    | refine WL_m rfl (m_idxN hty rfl rfl rfl (by assumption) rfl) ?_
    | refine ends_bool rfl ?_)
  refine WL_cmp rfl rfl rfl rfl (fun hc => ?_) (fun hc => ?_)
  · have hlt : j < l.length := by rw [rsT_length] at hc; omega
    obtain ⟨k, hk, hmem⟩ := get_of_lt hlt
    have rk := rsT_get hk
    repeat' (first
      | refine WL_callFB rfl (by simp [hxa]) rfl (h k hmem) rfl (fun _ => ?_) (fun _ => ?_)
      | refine WL_p hty rfl rfl ?_
      | refine WL_nil ?_
      | refine AC_seq ?_
      | refine AC_region ?_
      | refine AC_block ?_
      | refine AC_skip ?_
      | refine AC_condT rfl ?_
      | refine AC_condF rfl ?_
      | refine AC_exit ?_
      | refine AC_ret ?_
      | refine WL_ung rfl rfl ?_
      | refine WL_offT rfl rfl rfl ?_
      | refine WL_offF rfl rfl rfl ?_
      | refine WL_offU rfl rfl rfl ?_
      | refine WL_m rfl (m_idxN hty rfl rfl rfl (by assumption) rfl) ?_
      | refine ends_bool rfl ?_
      | refine WL_cmp rfl rfl rfl rfl (fun _ => ?_) (fun _ => ?_)
      | refine AC_cond rfl (fun _ => ?_) (fun _ => ?_))
    · exact ends_int rfl (idxF_hit ‹_› hI hk).symm
    · refine ⟨hlt, ?_, (less_sub ⟨⟨_, rfl, .inl ⟨.refl _, rfl⟩⟩, ⟨_, rfl, .inr ⟨_, ?_, .refl _⟩⟩, ⟨_, rfl, .inl ⟨.refl _, rfl⟩⟩, ⟨_, rfl, see_eq ?_ rfl⟩, trivial⟩ trivial)⟩
      · rw [any_take_succ hk, hI]; simp [*]
      · simp only [argV, argS, closedS, hxa]; rfl
      · exact congrArg (AV.int .i64) ((wrap_ok (by omega) (by omega)).trans (by omega))
  · obtain rfl : j = l.length := by rw [rsT_length] at hc; omega
    rw [List.take_length] at hI
    repeat' (first
      | refine WL_p hty rfl rfl ?_
      | refine WL_nil ?_
      | refine AC_seq ?_
      | refine AC_region ?_
      | refine AC_block ?_
      | refine AC_skip ?_
      | refine AC_condT rfl ?_
      | refine AC_condF rfl ?_
      | refine AC_exit ?_
      | refine AC_ret ?_
      | refine WL_ung rfl rfl ?_
      | refine WL_offT rfl rfl rfl ?_
      | refine WL_offF rfl rfl rfl ?_
      | refine WL_offU rfl rfl rfl ?_
      | refine WL_m rfl (m_idxN hty rfl rfl rfl (by assumption) rfl) ?_
      | refine ends_bool rfl ?_
      | refine WL_cmp rfl rfl rfl rfl (fun _ => ?_) (fun _ => ?_)
      | refine AC_cond rfl (fun _ => ?_) (fun _ => ?_))
    exact ends_int rfl (idxF_none hI).symm

theorem containsFunc_spec (g : Nat) (xa : List AV) (hxa : xa.all closed0 = true) (p : Tm → Bool) (l : List Tm) (hl : sizes l ≤ 1048576) (h : ∀ t, t ∈ l → FC Tryz.prog g ([aT t] ++ xa) (.bool (p t))) :
    FC Tryz.prog 61 [sT l, .fn (.func g) [] xa] (.bool (l.any p)) := by
  have hq := indexFunc_spec g xa hxa p l hl h
  refine FC_intro hty Tryz.func61 rfl rfl rfl fun w0 => ?_
  have he : ∀ s : AS, evO s (.tmp 5) = some (sT l) → evO s (.tmp 6) = some (.fn (.func g) [] xa) → evArgs s [.tmp 5, .tmp 6] = some [sT l, .fn (.func g) [] xa] := by
    intro s h1 h2
    simp only [evArgs, h1, h2, argV, argS, closedS, closed0, hxa]; rfl
  repeat' (first
    | refine WL_call 0 (he _ rfl rfl) hq rfl rfl rfl ?_
    | refine WL_p hty rfl rfl ?_
    | refine WL_nil ?_
    | refine AC_seq ?_
    | refine AC_region ?_
    | refine AC_block ?_
    | refine AC_skip ?_
    | refine AC_condT rfl ?_
    | refine AC_condF rfl ?_
    | refine AC_exit ?_
    | refine AC_ret ?_
    | refine WL_ung rfl rfl ?_
    | refine WL_offT rfl rfl rfl ?_
    | refine WL_offF rfl rfl rfl ?_
    | refine WL_offU rfl rfl rfl ?_
    | refine WL_m rfl (m_idxN hty rfl rfl rfl (by assumption) rfl) ?_
    | refine ends_bool rfl ?_
    | refine WL_cmp rfl rfl rfl rfl (fun _ => ?_) (fun _ => ?_)
    | refine AC_cond rfl (fun _ => ?_) (fun _ => ?_))
  · exact (idxF_ge.1 ‹_›).symm
  · rename_i h
    rw [eq_comm, Bool.eq_false_iff]
    exact fun q => h (idxF_ge.2 q)

end Go.Proofs.YtpnjflimilamdaaGreat
