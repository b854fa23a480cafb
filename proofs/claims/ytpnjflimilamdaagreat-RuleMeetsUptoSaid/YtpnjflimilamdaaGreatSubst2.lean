/-
  Variables replaced: what comes of a term, free variables, terms moved.
-/
import Derived.Test.YtpnjflimilamdaaGreatSubst
namespace Go.Proofs.YtpnjflimilamdaaGreat
set_option linter.unusedSimpArgs false
set_option linter.unusedVariables false
open Go.Aw Go.RowKit
attribute [local irreducible] WL AC WD MStep OkOp

set_option maxHeartbeats 4000000 in
theorem look_all : ∀ n, n ≤ 1048576 → ∀ (t : Tm) (j : Jb) (b d : Int), t.size ≤ n → formedT t = true → j.args.length ≤ 1048576 → 0 ≤ j.under ∧ j.under ≤ 65535 → 0 ≤ b → b + t.depth ≤ 4194304 → 0 ≤ d → d + t.depth ≤ 4194304 →
    MC Tryz.prog 43 [.ptr 0 0, aT t, .int .i64 b, .int .i64 d] (.box (cJ j)) (.tup []) (.box (cJ (lookT t j b d))) := by
  intro n
  induction n with
  | zero => intro hn t j b d ht; have := t.size_pos; omega
  | succ n ih =>
  intro hn t j b d ht hfm hl hu hb0 hb hd0 hd
  have ih := ih (by omega)
  have hs := t.size_eq
  have hdp := t.depth_eq
  have hlen := len_le_sizes t.kids
  by_cases hk1 : t.kind = 1
  · exact look_var t j b d hk1 hfm hl hu ⟨hb0, by omega⟩
  have hlk := lookT_eq t j b d
  rw [if_neg hk1] at hlk
  rw [hlk]
  refine MC_intro hty Tryz.func43 rfl rfl rfl rfl rfl fun w0 B => ?_
  repeat' (first
    | exact absurd ‹_› hk1
    | refine WL_m rfl (m_min rfl rfl rfl) ?_
    | refine WL_m rfl (m_max rfl rfl rfl) ?_
    | refine WL_p hty rfl rfl ?_
    | refine WL_nil ?_
    | refine AC_seq ?_
    | refine AC_region ?_
    | refine AC_block ?_
    | refine AC_skip ?_
    | refine AC_condT rfl ?_
    | refine AC_condF rfl ?_
    | refine AC_exit ?_
    | refine AC_ret ?_
    | refine WL_ung rfl rfl ?_
    | refine WL_offT rfl rfl rfl ?_
    | refine WL_offF rfl rfl rfl ?_
    | refine WL_offU rfl rfl rfl ?_
    | refine WL_m rfl (m_idxN hty rfl rfl rfl (by assumption) rfl) ?_
    | refine ends_bool rfl ?_
    | refine WL_cmp rfl rfl rfl rfl (fun _ => ?_) (fun _ => ?_)
    | refine AC_cond rfl (fun _ => ?_) (fun _ => ?_))
  refine AC_for t.kids.length (fun _ => True) (fun i => ⟨envOf [(0, .ptr 0 0), (2, .int .i64 b), (3, .int .i64 d), (5, .ptr 5 0), (100, sT t.kids), (101, .int .i64 ((rsT t.kids).length : Nat)), (102, .int .i64 (i : Nat))],
      bkOf [(0, .bx (some B) (cJ (lookTs t.kind 0 (t.kids.take i) (nodeJ j d) b d))), (5, .box (cT t))]⟩)
    (less_sub ⟨⟨_, rfl, .inl ⟨.refl _, rfl⟩⟩, ⟨_, rfl, .inl ⟨.refl _, rfl⟩⟩, ⟨_, rfl, .inl ⟨.refl _, rfl⟩⟩, ⟨_, rfl, .inl ⟨.refl _, rfl⟩⟩, ⟨_, rfl, .inl ⟨.refl _, rfl⟩⟩, ⟨_, rfl, .inl ⟨.refl _, rfl⟩⟩, ⟨_, rfl, .inl ⟨.refl _, rfl⟩⟩, trivial⟩ ⟨⟨⟨_, rfl, .of_eq ?_⟩, rfl⟩, ⟨⟨_, rfl, .refl _⟩, rfl⟩, trivial⟩) trivial ?_
  · rfl
  intro i hi _
  repeat' (first
    | refine WL_p hty rfl rfl ?_
    | refine WL_nil ?_
    | refine AC_seq ?_
    | refine AC_region ?_
    | refine AC_block ?_
    | refine AC_skip ?_
    | refine AC_condT rfl ?_
    | refine AC_condF rfl ?_
    | refine AC_exit ?_
    | refine AC_ret ?_
    | refine WL_ung rfl rfl ?_
    | refine WL_offT rfl rfl rfl ?_
    | refine WL_offF rfl rfl rfl ?_
    | refine WL_offU rfl rfl rfl ?_
    | refine WL_m rfl (m_idxN hty rfl rfl rfl (by assumption) rfl) ?_
    | refine ends_bool rfl ?_)
  refine WL_cmp rfl rfl rfl rfl (fun hc => ?_) (fun hc => ?_)
  · have hlt : i < t.kids.length := by rw [rsT_length] at hc; omega
    obtain ⟨k, hk, hmem⟩ := get_of_lt hlt
    have hks := size_le_sizes hmem
    have hkd := depth_le_depths hmem
    have rk := rsT_get hk
    have hbi : 0 ≤ bindsR t.kind (i : Nat) ∧ bindsR t.kind (i : Nat) ≤ 1 := by unfold bindsR; split <;> omega
    have hwr : IntKind.i64.wrap (b + bindsR t.kind (i : Nat)) = b + bindsR t.kind (i : Nat) := wrap_ok (n := b + bindsR t.kind (i : Nat)) (by omega) (by omega)
    have hwd : IntKind.i64.wrap (d + 1) = d + 1 := wrap_ok (n := d + 1) (by omega) (by omega)
    have hkp := lookTs_keep t.kind 0 (t.kids.take i) (nodeJ j d) b d
    have hkc := ih k (lookTs t.kind 0 (t.kids.take i) (nodeJ j d) b d) (b + bindsR t.kind (i : Nat)) (d + 1) (by omega) (formedT_kids hfm hmem) (by rw [hkp.1]; exact hl) (by rw [hkp.2]; exact hu) (by omega) (by omega) (by omega) (by omega)
    rw [← lookTs_next t.kind b d (nodeJ j d) hk, ← hwr, ← hwd] at hkc
    repeat' (first
      | (refine AC_less (less_sub (l := [(0, _), (2, _), (3, _), (5, _), (12, _), (13, _), (100, _), (101, _), (102, _)]) (bl := [(0, _), (5, _), (13, _)]) ⟨⟨_, rfl, .inl ⟨.refl _, rfl⟩⟩, ⟨_, rfl, .inl ⟨.refl _, rfl⟩⟩, ⟨_, rfl, .inl ⟨.refl _, rfl⟩⟩, ⟨_, rfl, .inl ⟨.refl _, rfl⟩⟩, ⟨_, rfl, .inl ⟨.refl _, rfl⟩⟩, ⟨_, rfl, .inl ⟨.refl _, rfl⟩⟩, ⟨_, rfl, .inl ⟨.refl _, rfl⟩⟩, ⟨_, rfl, .inl ⟨.refl _, rfl⟩⟩, ⟨_, rfl, .inl ⟨.refl _, rfl⟩⟩, trivial⟩ ⟨⟨⟨_, rfl, .refl _⟩, rfl⟩, ⟨⟨_, rfl, .refl _⟩, rfl⟩, ⟨⟨_, rfl, .refl _⟩, rfl⟩, trivial⟩) ?_; refine AC_drawn [[], [], [], [], [3], [], [3, 4, 5], [2, 3, 4, 5, 6], [], [8], [0, 1, 2, 3, 4, 5, 6, 7, 8, 9]] rfl rfl ?_)
      | refine WD_cons (.inl ⟨rfl, m_call 0 rfl (kbinds_spec _ _) rfl rfl rfl⟩) ?_
      | refine WD_cons (.inl ⟨rfl, m_callM 0 rfl rfl rfl hkc rfl rfl⟩) ?_
      | refine WD_cons (.inl ⟨rfl, stepE_ok hty rfl rfl⟩) ?_
      | refine WD_cons (.inl ⟨rfl, m_idxN hty rfl rfl rfl (by assumption) rfl⟩) ?_
      | refine WD_ung rfl rfl ?_
      | refine WD_offT rfl rfl rfl ?_
      | refine WD_offF rfl rfl rfl ?_
      | refine WD_offU rfl rfl rfl ?_
      | refine WD_nil ⟨by kernel_rfl, ?_⟩
      | refine WL_p hty rfl rfl ?_
      | refine WL_nil ?_
      | refine AC_seq ?_
      | refine AC_region ?_
      | refine AC_block ?_
      | refine AC_skip ?_
      | refine AC_condT rfl ?_
      | refine AC_condF rfl ?_
      | refine AC_exit ?_
      | refine AC_ret ?_
      | refine WL_ung rfl rfl ?_
      | refine WL_offT rfl rfl rfl ?_
      | refine WL_offF rfl rfl rfl ?_
      | refine WL_offU rfl rfl rfl ?_
      | refine WL_m rfl (m_idxN hty rfl rfl rfl (by assumption) rfl) ?_
      | refine ends_bool rfl ?_
      | refine WL_cmp rfl rfl rfl rfl (fun _ => ?_) (fun _ => ?_)
      | refine AC_cond rfl (fun _ => ?_) (fun _ => ?_))
    refine ⟨hlt, trivial, (less_sub ⟨⟨_, rfl, .inl ⟨.refl _, rfl⟩⟩, ⟨_, rfl, .inl ⟨.refl _, rfl⟩⟩, ⟨_, rfl, .inl ⟨.refl _, rfl⟩⟩, ⟨_, rfl, .inl ⟨.refl _, rfl⟩⟩, ⟨_, rfl, .inl ⟨.refl _, rfl⟩⟩, ⟨_, rfl, .inl ⟨.refl _, rfl⟩⟩, ⟨_, rfl, see_eq ?_ rfl⟩, trivial⟩ ⟨⟨⟨_, rfl, .of_eq ?_⟩, rfl⟩, ⟨⟨_, rfl, .refl _⟩, rfl⟩, trivial⟩)⟩
    · exact congrArg (AV.int .i64) ((wrap_ok (by omega) (by omega)).trans (by omega))
    · rfl
  · obtain rfl : i = t.kids.length := by rw [rsT_length] at hc; omega
    repeat' (first
      | refine WL_p hty rfl rfl ?_
      | refine WL_nil ?_
      | refine AC_seq ?_
      | refine AC_region ?_
      | refine AC_block ?_
      | refine AC_skip ?_
      | refine AC_condT rfl ?_
      | refine AC_condF rfl ?_
      | refine AC_exit ?_
      | refine AC_ret ?_
      | refine WL_ung rfl rfl ?_
      | refine WL_offT rfl rfl rfl ?_
      | refine WL_offF rfl rfl rfl ?_
      | refine WL_offU rfl rfl rfl ?_
      | refine WL_m rfl (m_idxN hty rfl rfl rfl (by assumption) rfl) ?_
      | refine ends_bool rfl ?_
      | refine WL_cmp rfl rfl rfl rfl (fun _ => ?_) (fun _ => ?_)
      | refine AC_cond rfl (fun _ => ?_) (fun _ => ?_))
    refine endsM_end 0 rfl rfl rfl rfl rfl rfl (.of_eq ?_)
    rw [List.take_length]

theorem look_spec (t : Tm) (j : Jb) (b d : Int) (hs : t.size ≤ 1048576) (hfm : formedT t = true) (hl : j.args.length ≤ 1048576) (hu : 0 ≤ j.under ∧ j.under ≤ 65535) (hb0 : 0 ≤ b) (hb : b + t.depth ≤ 4194304) (hd0 : 0 ≤ d) (hd : d + t.depth ≤ 4194304) :
    MC Tryz.prog 43 [.ptr 0 0, aT t, .int .i64 b, .int .i64 d] (.box (cJ j)) (.tup []) (.box (cJ (lookT t j b d))) :=
  look_all 1048576 (by omega) t j b d hs hfm hl hu hb0 hb hd0 hd

/-! free variables -/
mutual
def freeT : Tm → Int → Int
  | .mk k n l, b => freeTs k 0 l b (if k = 1 ∧ b ≤ n then n else -1)
def freeTs : Int → Int → List Tm → Int → Int → Int
  | _, _, [], _, acc => acc
  | k, i, t :: l, b, acc => freeTs k (i + 1) l b (mxI acc (freeT t (b + bindsR k i)))
end
theorem freeT_eq (t : Tm) (b : Int) : freeT t b = freeTs t.kind 0 t.kids b (if t.kind = 1 ∧ b ≤ t.num then t.num else -1) := by cases t; rw [freeT]; rfl
theorem freeTs_snoc (k b : Int) (t : Tm) : ∀ (l : List Tm) (i acc : Int), freeTs k i (l ++ [t]) b acc = mxI (freeTs k i l b acc) (freeT t (b + bindsR k (i + l.length)))
  | [], i, acc => by simp [freeTs]
  | u :: l, i, acc => by
    simp only [List.cons_append, freeTs, freeTs_snoc k b t l, List.length_cons]
    rw [show i + 1 + (l.length : Int) = i + ((l.length + 1 : Nat) : Int) by omega]
theorem freeTs_next (k b acc : Int) {l : List Tm} {i : Nat} {t : Tm} (h : l[i]? = some t) : freeTs k 0 (l.take (i + 1)) b acc = mxI (freeTs k 0 (l.take i) b acc) (freeT t (b + bindsR k i)) := by
  have hlt : i < l.length := (List.getElem?_eq_some_iff.1 h).1
  have h1 : (l.take i).length = i := by rw [List.length_take]; omega
  rw [List.take_add_one, h, Option.toList_some, freeTs_snoc, h1, Int.zero_add]

set_option maxHeartbeats 4000000 in
theorem free_all : ∀ n, n ≤ 1048576 → ∀ (t : Tm) (b : Int), t.size ≤ n → 0 ≤ b → b + t.depth ≤ 4194304 → FC Tryz.prog 42 [aT t, .int .i64 b] (.int .i64 (freeT t b)) := by
  intro n
  induction n with
  | zero => intro hn t b ht; have := t.size_pos; omega
  | succ n ih =>
  intro hn t b ht hb0 hb
  have ih := ih (by omega)
  have hs := t.size_eq
  have hdp := t.depth_eq
  have hlen := len_le_sizes t.kids
  have hfe := freeT_eq t b
  refine FC_intro hty Tryz.func42 rfl rfl rfl fun w0 => ?_
  obtain ⟨a0, ha0⟩ : ∃ a0 : Int, a0 = if t.kind = 1 ∧ b ≤ t.num then t.num else -1 := ⟨_, rfl⟩
  rw [← ha0] at hfe
  repeat' (first
    | refine WL_p hty rfl rfl ?_
    | refine WL_nil ?_
    | refine AC_seq ?_
    | refine AC_region ?_
    | refine AC_block ?_
    | refine AC_skip ?_
    | refine AC_condT rfl ?_
    | refine AC_condF rfl ?_
    | refine AC_exit ?_
    | refine AC_ret ?_
    | refine WL_ung rfl rfl ?_
    | refine WL_offT rfl rfl rfl ?_
    | refine WL_offF rfl rfl rfl ?_
    | refine WL_offU rfl rfl rfl ?_
    | refine WL_m rfl (m_idxN hty rfl rfl rfl (by assumption) rfl) ?_
    | refine ends_bool rfl ?_
    | refine WL_cmp rfl rfl rfl rfl (fun _ => ?_) (fun _ => ?_)
    | refine AC_cond rfl (fun _ => ?_) (fun _ => ?_))
  all_goals
    have hacc : ∀ x : Int, x = a0 → AV.int IntKind.i64 x = AV.int IntKind.i64 (freeTs t.kind 0 (t.kids.take 0) b a0) := fun x hx => by rw [hx]; rfl
    refine AC_for t.kids.length (fun _ => True) (fun i => ⟨envOf [(1, .int .i64 b), (2, .ptr 2 0), (5, .int .i64 (freeTs t.kind 0 (t.kids.take i) b a0)), (20, sT t.kids), (21, .int .i64 ((rsT t.kids).length : Nat)), (22, .int .i64 (i : Nat))], bkOf [(2, .box (cT t))]⟩)
      (less_sub ⟨⟨_, rfl, .inl ⟨.refl _, rfl⟩⟩, ⟨_, rfl, .inl ⟨.refl _, rfl⟩⟩, ⟨_, rfl, see_eq ?_ rfl⟩, ⟨_, rfl, .inl ⟨.refl _, rfl⟩⟩, ⟨_, rfl, .inl ⟨.refl _, rfl⟩⟩, ⟨_, rfl, .inl ⟨.refl _, rfl⟩⟩, trivial⟩ ⟨⟨⟨_, rfl, .refl _⟩, rfl⟩, trivial⟩) trivial ?_
    · refine hacc _ ?_
      rw [ha0]
      simp [*]
    clear hacc
    intro i hi _
    repeat' (first
      | refine WL_p hty rfl rfl ?_
      | refine WL_nil ?_
      | refine AC_seq ?_
      | refine AC_region ?_
      | refine AC_block ?_
      | refine AC_skip ?_
      | refine AC_condT rfl ?_
      | refine AC_condF rfl ?_
      | refine AC_exit ?_
      | refine AC_ret ?_
      | refine WL_ung rfl rfl ?_
      | refine WL_offT rfl rfl rfl ?_
      | refine WL_offF rfl rfl rfl ?_
      | refine WL_offU rfl rfl rfl ?_
      | refine WL_m rfl (m_idxN hty rfl rfl rfl (by assumption) rfl) ?_
      | refine ends_bool rfl ?_)
    refine WL_cmp rfl rfl rfl rfl (fun hc => ?_) (fun hc => ?_)
    · have hlt : i < t.kids.length := by rw [rsT_length] at hc; omega
      obtain ⟨k, hk, hmem⟩ := get_of_lt hlt
      have hks := size_le_sizes hmem
      have hkd := depth_le_depths hmem
      have rk := rsT_get hk
      have hbi : 0 ≤ bindsR t.kind (i : Nat) ∧ bindsR t.kind (i : Nat) ≤ 1 := by unfold bindsR; split <;> omega
      have hwr : IntKind.i64.wrap (b + bindsR t.kind (i : Nat)) = b + bindsR t.kind (i : Nat) := wrap_ok (n := b + bindsR t.kind (i : Nat)) (by omega) (by omega)
      have hkc := ih k (b + bindsR t.kind (i : Nat)) (by omega) (by omega) (by omega)
      rw [← hwr] at hkc
      repeat' (first
        | refine AC_drawn [[], [], [], [], [3], [], [3, 4, 5], [2, 3, 4, 5, 6], [1, 2, 3, 4, 5, 6, 7], [0, 1, 2, 3, 4, 5, 6, 7, 8], [0, 1, 2, 3, 4, 5, 6, 7, 8, 9]] rfl rfl ?_
        | refine WD_cons (.inl ⟨rfl, m_call 0 rfl (kbinds_spec _ _) rfl rfl rfl⟩) ?_
        | refine WD_cons (.inl ⟨rfl, m_call 0 rfl hkc rfl rfl rfl⟩) ?_
        | refine WD_cons (.inl ⟨rfl, m_max rfl rfl rfl⟩) ?_
        | refine WD_cons (.inl ⟨rfl, stepE_ok hty rfl rfl⟩) ?_
        | refine WD_cons (.inl ⟨rfl, m_idxN hty rfl rfl rfl (by assumption) rfl⟩) ?_
        | refine WD_ung rfl rfl ?_
        | refine WD_offT rfl rfl rfl ?_
        | refine WD_offF rfl rfl rfl ?_
        | refine WD_offU rfl rfl rfl ?_
        | refine WD_nil ⟨by kernel_rfl, ?_⟩
        | refine WL_p hty rfl rfl ?_
        | refine WL_nil ?_
        | refine AC_seq ?_
        | refine AC_region ?_
        | refine AC_block ?_
        | refine AC_skip ?_
        | refine AC_condT rfl ?_
        | refine AC_condF rfl ?_
        | refine AC_exit ?_
        | refine AC_ret ?_
        | refine WL_ung rfl rfl ?_
        | refine WL_offT rfl rfl rfl ?_
        | refine WL_offF rfl rfl rfl ?_
        | refine WL_offU rfl rfl rfl ?_
        | refine WL_m rfl (m_idxN hty rfl rfl rfl (by assumption) rfl) ?_
        | refine ends_bool rfl ?_
        | refine WL_cmp rfl rfl rfl rfl (fun _ => ?_) (fun _ => ?_)
        | refine AC_cond rfl (fun _ => ?_) (fun _ => ?_))
      refine ⟨hlt, trivial, (less_sub ⟨⟨_, rfl, .inl ⟨.refl _, rfl⟩⟩, ⟨_, rfl, .inl ⟨.refl _, rfl⟩⟩, ⟨_, rfl, see_eq ?_ rfl⟩, ⟨_, rfl, .inl ⟨.refl _, rfl⟩⟩, ⟨_, rfl, .inl ⟨.refl _, rfl⟩⟩, ⟨_, rfl, see_eq ?_ rfl⟩, trivial⟩ ⟨⟨⟨_, rfl, .refl _⟩, rfl⟩, trivial⟩)⟩
      · rw [freeTs_next t.kind b a0 hk, hwr]; rfl
      · exact congrArg (AV.int .i64) ((wrap_ok (by omega) (by omega)).trans (by omega))
    · obtain rfl : i = t.kids.length := by rw [rsT_length] at hc; omega
      repeat' (first
        | refine WL_p hty rfl rfl ?_
        | refine WL_nil ?_
        | refine AC_seq ?_
        | refine AC_region ?_
        | refine AC_block ?_
        | refine AC_skip ?_
        | refine AC_condT rfl ?_
        | refine AC_condF rfl ?_
        | refine AC_exit ?_
        | refine AC_ret ?_
        | refine WL_ung rfl rfl ?_
        | refine WL_offT rfl rfl rfl ?_
        | refine WL_offF rfl rfl rfl ?_
        | refine WL_offU rfl rfl rfl ?_
        | refine WL_m rfl (m_idxN hty rfl rfl rfl (by assumption) rfl) ?_
        | refine ends_bool rfl ?_
        | refine WL_cmp rfl rfl rfl rfl (fun _ => ?_) (fun _ => ?_)
        | refine AC_cond rfl (fun _ => ?_) (fun _ => ?_))
      refine ends_int rfl ?_
      rw [List.take_length, hfe]
theorem free_spec (t : Tm) (b : Int) (hs : t.size ≤ 1048576) (hb0 : 0 ≤ b) (hb : b + t.depth ≤ 4194304) : FC Tryz.prog 42 [aT t, .int .i64 b] (.int .i64 (freeT t b)) := free_all 1048576 (by omega) t b hs hb0 hb

/-! terms moved -/
def movF (by_ : Int) (n b : Int) : Tm := .mk 1 (if b ≤ n then IntKind.i64.wrap (n + by_) else n) []
def movedT (t : Tm) (by_ : Int) : Tm := mapT (movF by_) 0 t

theorem mov1_spec (c n b : Int) : FC Tryz.prog 45 ([.int .i64 n, .int .i64 b] ++ [.eptr [.int .i64 c] 0]) (aT (movF c n b)) := by
  unfold movF
  refine FC_intro hty Tryz.func45 rfl rfl rfl fun w0 => ?_
  repeat' (first
    | refine WL_call 0 rfl (tv_spec _) rfl rfl rfl ?_
    | refine WL_p hty rfl rfl ?_
    | refine WL_nil ?_
    | refine AC_seq ?_
    | refine AC_region ?_
    | refine AC_block ?_
    | refine AC_skip ?_
    | refine AC_condT rfl ?_
    | refine AC_condF rfl ?_
    | refine AC_exit ?_
    | refine AC_ret ?_
    | refine WL_ung rfl rfl ?_
    | refine WL_offT rfl rfl rfl ?_
    | refine WL_offF rfl rfl rfl ?_
    | refine WL_offU rfl rfl rfl ?_
    | refine WL_m rfl (m_idxN hty rfl rfl rfl (by assumption) rfl) ?_
    | refine ends_bool rfl ?_
    | refine WL_cmp rfl rfl rfl rfl (fun _ => ?_) (fun _ => ?_)
    | refine AC_cond rfl (fun _ => ?_) (fun _ => ?_))
  · rw [if_pos (by assumption)]
    exact ends_wk rfl rfl (.refl _)
  · rw [if_neg (by assumption)]
    exact ends_wk rfl rfl (.refl _)

theorem moved_spec (t : Tm) (c : Int) (hs : t.size ≤ 1048576) (hfm : formedT t = true) : FC Tryz.prog 23 [aT t, .int .i64 c] (aT (movedT t c)) := by
  have hdl := t.depth_le
  have hm := map_spec 45 [.eptr [.int .i64 c] 0] rfl (movF c) 4194304 (by omega) (fun n b _ _ _ _ => mov1_spec c n b) t 0 hs hfm (by omega) (by omega)
  refine FC_intro hty Tryz.func23 rfl rfl rfl fun w0 => ?_
  repeat' (first
    | refine WL_less (less_freezeBox 3 rfl rfl) ?_
    | refine WL_m rfl (m_makeFunc rfl rfl rfl) ?_
    | refine WL_call 0 rfl hm rfl rfl rfl ?_
    | refine WL_p hty rfl rfl ?_
    | refine WL_nil ?_
    | refine AC_seq ?_
    | refine AC_region ?_
    | refine AC_block ?_
    | refine AC_skip ?_
    | refine AC_condT rfl ?_
    | refine AC_condF rfl ?_
    | refine AC_exit ?_
    | refine AC_ret ?_
    | refine WL_ung rfl rfl ?_
    | refine WL_offT rfl rfl rfl ?_
    | refine WL_offF rfl rfl rfl ?_
    | refine WL_offU rfl rfl rfl ?_
    | refine WL_m rfl (m_idxN hty rfl rfl rfl (by assumption) rfl) ?_
    | refine ends_bool rfl ?_
    | refine WL_cmp rfl rfl rfl rfl (fun _ => ?_) (fun _ => ?_)
    | refine AC_cond rfl (fun _ => ?_) (fun _ => ?_))
  exact ends_wk rfl rfl (.refl _)

end Go.Proofs.YtpnjflimilamdaaGreat
