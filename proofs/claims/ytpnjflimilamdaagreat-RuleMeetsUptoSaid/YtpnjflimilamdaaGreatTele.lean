/-
  Spines taken apart: rows turned round, what is applied to what.
-/
import Derived.Test.YtpnjflimilamdaaGreatTerm2
namespace Go.Proofs.YtpnjflimilamdaaGreat
set_option linter.unusedSimpArgs false
set_option linter.unusedVariables false
open Go.Aw Go.RowKit
attribute [local irreducible] WL AC WD MStep OkOp

def revN {α : Type} (l : List α) : Nat → List α
  | 0 => l
  | i + 1 => match (revN l i)[i]?, (revN l i)[l.length - 1 - i]? with
    | some a, some b => ((revN l i).set i b).set (l.length - 1 - i) a
    | _, _ => revN l i
theorem revN_length {α : Type} (l : List α) : ∀ i, (revN l i).length = l.length
  | 0 => rfl
  | i + 1 => by
    simp only [revN]
    split
    · rw [List.length_set, List.length_set, revN_length]
    · exact revN_length l i
theorem revN_get {α : Type} (l : List α) : ∀ i, 2 * i ≤ l.length → ∀ q, q < l.length → (revN l i)[q]? = if q < i ∨ l.length - i ≤ q then l[l.length - 1 - q]? else l[q]?
  | 0, _, q, hq => by rw [if_neg (by omega)]; rfl
  | i + 1, h, q, hq => by
    have ih := revN_get l i (by omega)
    have hl := revN_length l i
    have h1 := ih i (by omega)
    have h2 := ih (l.length - 1 - i) (by omega)
    rw [if_neg (by omega)] at h1 h2
    have e1 : l[i]? = some l[i] := List.getElem?_eq_getElem (by omega)
    have e2 : l[l.length - 1 - i]? = some l[l.length - 1 - i] := List.getElem?_eq_getElem (by omega)
    rw [e1] at h1
    rw [e2] at h2
    simp only [revN, h1, h2]
    rw [List.getElem?_set, List.getElem?_set, List.length_set, hl]
    by_cases c1 : l.length - 1 - i = q
    · rw [if_pos c1, if_pos (by omega), if_pos (by omega), ← e1]
      congr 1; omega
    · rw [if_neg c1]
      by_cases c2 : i = q
      · rw [if_pos c2, if_pos (by omega), if_pos (by omega), ← e2]
        congr 1; omega
      · rw [if_neg c2, ih q hq]
        by_cases c3 : q < i ∨ l.length - i ≤ q
        · rw [if_pos c3, if_pos (by omega)]
        · rw [if_neg c3, if_neg (by omega)]
theorem revN_all {α : Type} {l : List α} {i : Nat} (h : 2 * i ≤ l.length) (h2 : l.length ≤ 2 * i + 1) : revN l i = l.reverse := by
  refine List.ext_getElem? fun q => ?_
  rcases Nat.lt_or_ge q l.length with hq | hq
  · rw [revN_get l i h q hq, List.getElem?_reverse hq]
    split
    · rfl
    · congr 1; omega
  · rw [List.getElem?_eq_none (by rw [revN_length]; exact hq), List.getElem?_eq_none (by rw [List.length_reverse]; exact hq)]
theorem revN_next {α : Type} {l : List α} {i : Nat} {a b : α} (ha : (revN l i)[i]? = some a) (hb : (revN l i)[l.length - 1 - i]? = some b) : revN l (i + 1) = ((revN l i).set i b).set (l.length - 1 - i) a := by simp only [revN, ha, hb]
theorem rsT_set (l : List Tm) (i : Nat) (a : Tm) : (rsT l).set i (cT a) = rsT (l.set i a) := by rw [rsT_map, rsT_map, List.map_set, ← rT_eq]

theorem reverse_nil : FC Tryz.prog 89 [.lst 0 [] true] (.tup []) := by
  refine FC_intro hty Tryz.func89 rfl rfl rfl fun w0 => ?_
  repeat' (first
    | refine WL_p hty rfl rfl ?_
    | refine WL_nil ?_
    | refine AC_seq ?_
    | refine AC_region ?_
    | refine AC_block ?_
    | refine AC_skip ?_
    | refine AC_condT rfl ?_
    | refine AC_condF rfl ?_
    | refine AC_exit ?_
    | refine AC_ret ?_
    | refine WL_ung rfl rfl ?_
    | refine WL_offT rfl rfl rfl ?_
    | refine WL_offF rfl rfl rfl ?_
    | refine WL_offU rfl rfl rfl ?_
    | refine WL_m rfl (m_idxN hty rfl rfl rfl (by assumption) rfl) ?_
    | refine ends_bool rfl ?_
    | refine WL_cmp rfl rfl rfl rfl (fun _ => ?_) (fun _ => ?_)
    | refine AC_cond rfl (fun _ => ?_) (fun _ => ?_))
  refine AC_for 0 (fun _ => True) (fun i => ⟨envOf [(2, .int .i64 0), (3, .int .i64 (-1))], bkOf []⟩) (less_sub ⟨⟨_, rfl, .inl ⟨.refl _, rfl⟩⟩, ⟨_, rfl, see_eq ?_ rfl⟩, trivial⟩ trivial) trivial ?_
  · exact congrArg (AV.int .i64) (wrap_ok (n := 0 - 1) (by omega) (by omega))
  intro i hi _
  repeat' (first
    | refine WL_p hty rfl rfl ?_
    | refine WL_nil ?_
    | refine AC_seq ?_
    | refine AC_region ?_
    | refine AC_block ?_
    | refine AC_skip ?_
    | refine AC_condT rfl ?_
    | refine AC_condF rfl ?_
    | refine AC_exit ?_
    | refine AC_ret ?_
    | refine WL_ung rfl rfl ?_
    | refine WL_offT rfl rfl rfl ?_
    | refine WL_offF rfl rfl rfl ?_
    | refine WL_offU rfl rfl rfl ?_
    | refine WL_m rfl (m_idxN hty rfl rfl rfl (by assumption) rfl) ?_
    | refine ends_bool rfl ?_)
  refine WL_cmp rfl rfl rfl rfl (fun hc => by omega) (fun hc => ?_)
  repeat' (first
    | refine WL_p hty rfl rfl ?_
    | refine WL_nil ?_
    | refine AC_seq ?_
    | refine AC_region ?_
    | refine AC_block ?_
    | refine AC_skip ?_
    | refine AC_condT rfl ?_
    | refine AC_condF rfl ?_
    | refine AC_exit ?_
    | refine AC_ret ?_
    | refine WL_ung rfl rfl ?_
    | refine WL_offT rfl rfl rfl ?_
    | refine WL_offF rfl rfl rfl ?_
    | refine WL_offU rfl rfl rfl ?_
    | refine WL_m rfl (m_idxN hty rfl rfl rfl (by assumption) rfl) ?_
    | refine ends_bool rfl ?_
    | refine WL_cmp rfl rfl rfl rfl (fun _ => ?_) (fun _ => ?_)
    | refine AC_cond rfl (fun _ => ?_) (fun _ => ?_))
  exact ⟨.inr rfl, _, .refl _, _, rfl, .inl ⟨_, rfl, .refl _⟩⟩

set_option maxHeartbeats 4000000 in
theorem reverse_spec (l : List Tm) (hl : l.length ≤ 1048576) : MC Tryz.prog 89 [.arr 0] (.arr 24 3 (rsT l) true) (.tup []) (.arr 24 3 (rsT l.reverse) true) := by
  refine MC_intro hty Tryz.func89 rfl rfl rfl rfl rfl fun w0 B => ?_
  repeat' (first
    | refine WL_p hty rfl rfl ?_
    | refine WL_nil ?_
    | refine AC_seq ?_
    | refine AC_region ?_
    | refine AC_block ?_
    | refine AC_skip ?_
    | refine AC_condT rfl ?_
    | refine AC_condF rfl ?_
    | refine AC_exit ?_
    | refine AC_ret ?_
    | refine WL_ung rfl rfl ?_
    | refine WL_offT rfl rfl rfl ?_
    | refine WL_offF rfl rfl rfl ?_
    | refine WL_offU rfl rfl rfl ?_
    | refine WL_m rfl (m_idxN hty rfl rfl rfl (by assumption) rfl) ?_
    | refine ends_bool rfl ?_
    | refine WL_cmp rfl rfl rfl rfl (fun _ => ?_) (fun _ => ?_)
    | refine AC_cond rfl (fun _ => ?_) (fun _ => ?_))
  refine AC_for (l.length / 2) (fun _ => True) (fun i => ⟨envOf [(0, .arr 0), (2, .int .i64 (i : Nat)), (3, .int .i64 ((l.length : Int) - 1 - (i : Nat)))], bkOf [(0, .ar (some B) 24 3 (rsT (revN l i)) true)]⟩)
    (less_sub ⟨⟨_, rfl, .inl ⟨.refl _, rfl⟩⟩, ⟨_, rfl, .inl ⟨.refl _, rfl⟩⟩, ⟨_, rfl, see_eq ?_ rfl⟩, trivial⟩ ⟨⟨⟨_, rfl, .refl _⟩, rfl⟩, trivial⟩) trivial ?_
  · refine congrArg (AV.int .i64) ?_
    rw [rsT_length]
    exact (wrap_ok (by omega) (by omega)).trans (by omega)
  intro i hi _
  repeat' (first
    | refine WL_p hty rfl rfl ?_
    | refine WL_nil ?_
    | refine AC_seq ?_
    | refine AC_region ?_
    | refine AC_block ?_
    | refine AC_skip ?_
    | refine AC_condT rfl ?_
    | refine AC_condF rfl ?_
    | refine AC_exit ?_
    | refine AC_ret ?_
    | refine WL_ung rfl rfl ?_
    | refine WL_offT rfl rfl rfl ?_
    | refine WL_offF rfl rfl rfl ?_
    | refine WL_offU rfl rfl rfl ?_
    | refine WL_m rfl (m_idxN hty rfl rfl rfl (by assumption) rfl) ?_
    | refine ends_bool rfl ?_)
  refine WL_cmp rfl rfl rfl rfl (fun hc => ?_) (fun hc => ?_)
  · have hlt : i < l.length / 2 := by omega
    have hrl : (revN l i).length = l.length := revN_length l i
    obtain ⟨a, ha, _⟩ := get_of_lt (show i < (revN l i).length by omega)
    obtain ⟨b, hb, _⟩ := get_of_lt (show l.length - 1 - i < (revN l i).length by omega)
    have hn : ((l.length : Int) - 1 - (i : Nat)).toNat = l.length - 1 - i := by omega
    have ra := rsT_get ha
    have rb : (rsT (revN l i))[((l.length : Int) - 1 - (i : Nat)).toNat]? = some (cT b) := by rw [hn]; exact rsT_get hb
    have rb2 : ((rsT (revN l i)).set i (cT b))[((l.length : Int) - 1 - (i : Nat)).toNat]? = some (cT b) := by
      rw [hn, List.getElem?_set, if_neg (by omega)]; exact rsT_get hb
    repeat' (first
      | refine AC_drawn [[], [], [100000], [100000], [], [], [4, 5], [4, 5, 6], [], [], [8, 9], [8, 9, 10], [0, 1, 4, 5, 6, 7, 8, 9, 10, 11], [0, 1, 4, 5, 6, 7, 8, 9, 10, 11, 12], [0, 1, 2, 3, 4, 5, 6, 7, 8, 9, 10, 11, 12, 13], [0, 1, 2, 3, 4, 5, 6, 7, 8, 9, 10, 11, 12, 13, 14]] rfl rfl ?_
      | refine WD_cons (.inl ⟨rfl, m_idxA hty rfl rfl rfl rfl rfl (Int.natCast_nonneg _) (by simp [rsT_length]; omega) rfl⟩) ?_
      | refine WD_cons (.inl ⟨rfl, m_idxA hty rfl rfl rfl rfl rfl (by omega) (by simp [rsT_length]; omega) rfl⟩) ?_
      | refine WD_cons (.inl ⟨rfl, m_loadA hty rfl rfl rfl rfl rb rfl rfl rfl⟩) ?_
      | refine WD_cons (.inl ⟨rfl, m_loadA hty rfl rfl rfl rfl ra rfl rfl rfl⟩) ?_
      | refine WD_cons (.inl ⟨rfl, m_storeA hty rfl rfl rfl rfl ra rfl rfl rfl rfl rfl⟩) ?_
      | refine WD_cons (.inl ⟨rfl, m_storeA hty rfl rfl rfl rfl rb2 rfl rfl rfl rfl rfl⟩) ?_
      | refine WD_cons (.inl ⟨rfl, stepE_ok hty rfl rfl⟩) ?_
      | refine WD_cons (.inl ⟨rfl, m_idxN hty rfl rfl rfl (by assumption) rfl⟩) ?_
      | refine WD_ung rfl rfl ?_
      | refine WD_offT rfl rfl rfl ?_
      | refine WD_offF rfl rfl rfl ?_
      | refine WD_offU rfl rfl rfl ?_
      | refine WD_nil ⟨by kernel_rfl, ?_⟩
      | refine WL_p hty rfl rfl ?_
      | refine WL_nil ?_
      | refine AC_seq ?_
      | refine AC_region ?_
      | refine AC_block ?_
      | refine AC_skip ?_
      | refine AC_condT rfl ?_
      | refine AC_condF rfl ?_
      | refine AC_exit ?_
      | refine AC_ret ?_
      | refine WL_ung rfl rfl ?_
      | refine WL_offT rfl rfl rfl ?_
      | refine WL_offF rfl rfl rfl ?_
      | refine WL_offU rfl rfl rfl ?_
      | refine WL_m rfl (m_idxN hty rfl rfl rfl (by assumption) rfl) ?_
      | refine ends_bool rfl ?_
      | refine WL_cmp rfl rfl rfl rfl (fun _ => ?_) (fun _ => ?_)
      | refine AC_cond rfl (fun _ => ?_) (fun _ => ?_))
    refine ⟨hlt, trivial, (less_sub ⟨⟨_, rfl, .inl ⟨.refl _, rfl⟩⟩, ⟨_, rfl, see_eq ?_ rfl⟩, ⟨_, rfl, see_eq ?_ rfl⟩, trivial⟩ ⟨⟨⟨_, rfl, .of_eq ?_⟩, rfl⟩, trivial⟩)⟩
    · exact congrArg (AV.int .i64) ((wrap_ok (by omega) (by omega)).trans (by omega))
    · exact congrArg (AV.int .i64) ((wrap_ok (by omega) (by omega)).trans (by omega))
    · refine congrArg (fun r => AB.ar (some B) 24 3 r true) ?_
      show ((rsT (revN l i)).set i (cT b)).set _ (cT a) = _
      rw [hn, rsT_set, rsT_set, ← revN_next ha hb]
  · repeat' (first
      | refine WL_p hty rfl rfl ?_
      | refine WL_nil ?_
      | refine AC_seq ?_
      | refine AC_region ?_
      | refine AC_block ?_
      | refine AC_skip ?_
      | refine AC_condT rfl ?_
      | refine AC_condF rfl ?_
      | refine AC_exit ?_
      | refine AC_ret ?_
      | refine WL_ung rfl rfl ?_
      | refine WL_offT rfl rfl rfl ?_
      | refine WL_offF rfl rfl rfl ?_
      | refine WL_offU rfl rfl rfl ?_
      | refine WL_m rfl (m_idxN hty rfl rfl rfl (by assumption) rfl) ?_
      | refine ends_bool rfl ?_
      | refine WL_cmp rfl rfl rfl rfl (fun _ => ?_) (fun _ => ?_)
      | refine AC_cond rfl (fun _ => ?_) (fun _ => ?_))
    refine endsM_end 0 rfl rfl rfl rfl rfl rfl (.of_eq ?_)
    rw [revN_all (by omega) (by omega)]

/-! what is applied, to what -/
def twoB (t : Tm) (k : Int) : Bool := decide (t.kind = k) && decide (t.kids.length = 2)
theorem two_spec (t : Tm) (k : Int) : FC Tryz.prog 88 [aT t, .int .i64 k] (.bool (twoB t k)) := by
  refine FC_intro hty Tryz.func88 rfl rfl rfl fun w0 => ?_
  repeat' (first
    | refine WL_p hty rfl rfl ?_
    | refine WL_nil ?_
    | refine AC_seq ?_
    | refine AC_region ?_
    | refine AC_block ?_
    | refine AC_skip ?_
    | refine AC_condT rfl ?_
    | refine AC_condF rfl ?_
    | refine AC_exit ?_
    | refine AC_ret ?_
    | refine WL_ung rfl rfl ?_
    | refine WL_offT rfl rfl rfl ?_
    | refine WL_offF rfl rfl rfl ?_
    | refine WL_offU rfl rfl rfl ?_
    | refine WL_m rfl (m_idxN hty rfl rfl rfl (by assumption) rfl) ?_
    | refine ends_bool rfl ?_
    | refine WL_cmp rfl rfl rfl rfl (fun _ => ?_) (fun _ => ?_)
    | refine AC_cond rfl (fun _ => ?_) (fun _ => ?_))
  all_goals (try rw [rsT_length] at *)
  all_goals simp_all [twoB] <;> omega

def spN : Nat → Tm → List Tm → Tm × List Tm
  | 0, t, acc => (t, acc)
  | n + 1, t, acc => match twoB t 6, t.kids with
    | true, [f, a] => spN n f (acc ++ [a])
    | _, _ => (t, acc)
def splitT (t : Tm) : Tm × List Tm := ((spN t.size t []).1, (spN t.size t []).2.reverse)
theorem spN_end {n : Nat} {t : Tm} {acc : List Tm} (h : twoB t 6 = false) : spN n t acc = (t, acc) := by
  cases n with
  | zero => rfl
  | succ n => simp only [spN, h]
theorem two_kids {t : Tm} {k : Int} (h : twoB t k = true) : ∃ f a, t.kids = [f, a] := by
  simp only [twoB, Bool.and_eq_true, decide_eq_true_eq] at h
  obtain ⟨_, h2⟩ := h
  match hk : t.kids, h2 with
  | [f, a], _ => exact ⟨f, a, rfl⟩
theorem spN_step {n : Nat} {t : Tm} {acc : List Tm} {f a : Tm} (h : twoB t 6 = true) (hk : t.kids = [f, a]) : spN (n + 1) t acc = spN n f (acc ++ [a]) := by
  simp only [spN, h, hk]

theorem spN_more : ∀ (n m : Nat) (t : Tm) (acc : List Tm), t.size ≤ n → t.size ≤ m → spN n t acc = spN m t acc
  | 0, m, t, acc, h, _ => by have := t.size_pos; omega
  | n + 1, 0, t, acc, _, h => by have := t.size_pos; omega
  | n + 1, m + 1, t, acc, h1, h2 => by
    by_cases h : twoB t 6 = true
    · obtain ⟨f, a, hk⟩ := two_kids h
      have hs := t.size_eq
      rw [hk] at hs
      simp only [sizes] at hs
      rw [spN_step h hk, spN_step h hk]
      exact spN_more n m f _ (by omega) (by omega)
    · have h : twoB t 6 = false := by simpa using h
      rw [spN_end h, spN_end h]

def mkS : Tm × List Tm → AS
  | (t, []) => ⟨envOf [(1, .ptr 1 0), (2, .ptr 2 0), (4, .lst 0 [] true)], bkOf [(1, .box (cT t)), (2, .box [.int .i64 0, .int .i64 0, .lst 3 [] true])]⟩
  | (t, a :: r) => ⟨envOf [(1, .ptr 1 0), (2, .ptr 2 0), (4, .arr 13)], bkOf [(1, .box (cT t)), (2, .box [.int .i64 0, .int .i64 0, .lst 3 [] true]), (13, .arr 24 3 (rsT (a :: r)) true)]⟩

set_option maxHeartbeats 4000000 in
theorem split_spec (t : Tm) (hs : t.size ≤ 1048576) : FC Tryz.prog 63 [aT t] (.tup [aT (splitT t).1, sT (splitT t).2]) := by
  refine FC_intro hty Tryz.func63 rfl rfl rfl fun w0 => ?_
  repeat' (first
    | refine WL_p hty rfl rfl ?_
    | refine WL_nil ?_
    | refine AC_seq ?_
    | refine AC_region ?_
    | refine AC_block ?_
    | refine AC_skip ?_
    | refine AC_condT rfl ?_
    | refine AC_condF rfl ?_
    | refine AC_exit ?_
    | refine AC_ret ?_
    | refine WL_ung rfl rfl ?_
    | refine WL_offT rfl rfl rfl ?_
    | refine WL_offF rfl rfl rfl ?_
    | refine WL_offU rfl rfl rfl ?_
    | refine WL_m rfl (m_idxN hty rfl rfl rfl (by assumption) rfl) ?_
    | refine ends_bool rfl ?_
    | refine WL_cmp rfl rfl rfl rfl (fun _ => ?_) (fun _ => ?_)
    | refine AC_cond rfl (fun _ => ?_) (fun _ => ?_))
  refine AC_loop mkS (fun p => p.2.length + p.1.size ≤ t.size ∧ spN p.1.size p.1 p.2 = spN t.size t []) (fun p => p.1.size) (t, []) (less_sub ⟨⟨_, rfl, .inl ⟨.refl _, rfl⟩⟩, ⟨_, rfl, .inl ⟨.refl _, rfl⟩⟩, ⟨_, rfl, .inl ⟨.refl _, rfl⟩⟩, trivial⟩ ⟨⟨⟨_, rfl, .refl _⟩, rfl⟩, ⟨⟨_, rfl, .refl _⟩, rfl⟩, trivial⟩) ⟨by simp, rfl⟩ ?_
  rintro ⟨u, acc⟩ ⟨hI, hJ⟩
  have hI : acc.length + u.size ≤ t.size := hI
  have hJ : spN u.size u acc = spN t.size t [] := hJ
  have hu := u.size_eq
  by_cases h2 : twoB u 6 = true
  · obtain ⟨f, a, hk⟩ := two_kids h2
    have r1 : (rsT u.kids)[1]? = some (cT a) := by rw [hk, rs2]; rfl
    have r0 : (rsT u.kids)[0]? = some (cT f) := by rw [hk, rs2]; rfl
    have hsz : u.size = 1 + (f.size + a.size) := by rw [hu, hk]; simp [sizes]
    have hap := a.size_pos
    have hfp := f.size_pos
    have hJ2 : spN f.size f (acc ++ [a]) = spN t.size t [] := by
      rw [← hJ, hsz, show 1 + (f.size + a.size) = (f.size + a.size) + 1 by omega, spN_step h2 hk]
      exact spN_more _ _ _ _ (by omega) (by omega)
    cases acc with
    | nil =>
      repeat' (first
        | exact absurd h2 (by rw [‹twoB u 6 = false›]; decide)
        | refine WL_callB rfl (two_spec u 6) rfl (fun _ => ?_) (fun _ => ?_)
        | refine WL_m rfl (m_idxN (i := 1) hty rfl rfl rfl r1 rfl) ?_
        | refine WL_m rfl (m_idxN (i := 0) hty rfl rfl rfl r0 rfl) ?_
        | refine WL_m rfl (m_appF hty 13 rfl rfl rfl rfl rfl rfl rfl (List.cons_ne_nil _ _) (Nat.le_of_ble_eq_true rfl) rfl rfl rfl) ?_
        | refine WL_p hty rfl rfl ?_
        | refine WL_nil ?_
        | refine AC_seq ?_
        | refine AC_region ?_
        | refine AC_block ?_
        | refine AC_skip ?_
        | refine AC_condT rfl ?_
        | refine AC_condF rfl ?_
        | refine AC_exit ?_
        | refine AC_ret ?_
        | refine WL_ung rfl rfl ?_
        | refine WL_offT rfl rfl rfl ?_
        | refine WL_offF rfl rfl rfl ?_
        | refine WL_offU rfl rfl rfl ?_
        | refine WL_m rfl (m_idxN hty rfl rfl rfl (by assumption) rfl) ?_
        | refine ends_bool rfl ?_
        | refine WL_cmp rfl rfl rfl rfl (fun _ => ?_) (fun _ => ?_)
        | refine AC_cond rfl (fun _ => ?_) (fun _ => ?_))
      refine ⟨(f, [a]), ⟨by show 1 + f.size ≤ t.size; simp only [List.length_nil] at hI; omega, hJ2⟩, by show f.size < u.size; omega, ?_⟩
      show Less _ (mkS (f, [a]))
      refine (less_sub ⟨⟨_, rfl, .inl ⟨.refl _, rfl⟩⟩, ⟨_, rfl, .inl ⟨.refl _, rfl⟩⟩, ⟨_, rfl, .inl ⟨.refl _, rfl⟩⟩, trivial⟩ ⟨⟨⟨_, rfl, .refl _⟩, rfl⟩, ⟨⟨_, rfl, .refl _⟩, rfl⟩, ⟨⟨_, rfl, .of_eq ?_⟩, rfl⟩, trivial⟩)
      rw [rs1]; rfl
    | cons a0 r0 =>
      have hroom : (rsT (a0 :: r0)).length + 1 ≤ 4194304 := by rw [rsT_length]; simp only [List.length_cons] at hI ⊢; omega
      repeat' (first
        | exact absurd h2 (by rw [‹twoB u 6 = false›]; decide)
        | refine WL_callB rfl (two_spec u 6) rfl (fun _ => ?_) (fun _ => ?_)
        | refine WL_m rfl (m_idxN (i := 1) hty rfl rfl rfl r1 rfl) ?_
        | refine WL_m rfl (m_idxN (i := 0) hty rfl rfl rfl r0 rfl) ?_
        | refine WL_m rfl (m_appW hty 1013 rfl rfl rfl rfl rfl rfl rfl rfl (List.cons_ne_nil _ _) hroom rfl rfl rfl) ?_
        | refine WL_p hty rfl rfl ?_
        | refine WL_nil ?_
        | refine AC_seq ?_
        | refine AC_region ?_
        | refine AC_block ?_
        | refine AC_skip ?_
        | refine AC_condT rfl ?_
        | refine AC_condF rfl ?_
        | refine AC_exit ?_
        | refine AC_ret ?_
        | refine WL_ung rfl rfl ?_
        | refine WL_offT rfl rfl rfl ?_
        | refine WL_offF rfl rfl rfl ?_
        | refine WL_offU rfl rfl rfl ?_
        | refine WL_m rfl (m_idxN hty rfl rfl rfl (by assumption) rfl) ?_
        | refine ends_bool rfl ?_
        | refine WL_cmp rfl rfl rfl rfl (fun _ => ?_) (fun _ => ?_)
        | refine AC_cond rfl (fun _ => ?_) (fun _ => ?_))
      refine ⟨(f, a0 :: r0 ++ [a]), ⟨by show (a0 :: r0 ++ [a]).length + f.size ≤ t.size; simp only [List.length_cons, List.length_append, List.length_nil] at hI ⊢; omega, hJ2⟩, by show f.size < u.size; omega, ?_⟩
      show Less _ (mkS (f, a0 :: (r0 ++ [a])))
      refine (less_ren [(13, 1013)] rfl ⟨⟨_, rfl, .inl ⟨.refl _, rfl⟩⟩, ⟨_, rfl, .inl ⟨.refl _, rfl⟩⟩, ⟨_, rfl, .inl ⟨.refl _, rfl⟩⟩, trivial⟩ ⟨⟨⟨_, rfl, .refl _⟩, rfl⟩, ⟨⟨_, rfl, .refl _⟩, rfl⟩, ⟨⟨_, rfl, .of_eq ?_⟩, rfl⟩, trivial⟩)
      show AB.arr 24 3 _ true = AB.arr 24 3 _ true
      rw [show a0 :: (r0 ++ [a]) = (a0 :: r0) ++ [a] from rfl, rsT_append, rs1]
  · have h2 : twoB u 6 = false := by simpa using h2
    rw [spN_end h2] at hJ
    have hsp : splitT t = (u, acc.reverse) := by unfold splitT; rw [← hJ]
    rw [hsp]
    cases acc with
    | nil =>
      repeat' (first
        | exact absurd h2 (by rw [‹twoB u 6 = true›]; decide)
        | refine WL_callB rfl (two_spec u 6) rfl (fun _ => ?_) (fun _ => ?_)
        | refine WL_call 0 rfl reverse_nil rfl rfl rfl ?_
        | refine WL_p hty rfl rfl ?_
        | refine WL_nil ?_
        | refine AC_seq ?_
        | refine AC_region ?_
        | refine AC_block ?_
        | refine AC_skip ?_
        | refine AC_condT rfl ?_
        | refine AC_condF rfl ?_
        | refine AC_exit ?_
        | refine AC_ret ?_
        | refine WL_ung rfl rfl ?_
        | refine WL_offT rfl rfl rfl ?_
        | refine WL_offF rfl rfl rfl ?_
        | refine WL_offU rfl rfl rfl ?_
        | refine WL_m rfl (m_idxN hty rfl rfl rfl (by assumption) rfl) ?_
        | refine ends_bool rfl ?_
        | refine WL_cmp rfl rfl rfl rfl (fun _ => ?_) (fun _ => ?_)
        | refine AC_cond rfl (fun _ => ?_) (fun _ => ?_))
      exact ends_wk rfl rfl (.tup (.cons (.refl _) (.cons (.nilF _ _ _) .nil)))
    | cons a0 r0 =>
      have hrv := reverse_spec (a0 :: r0) (by omega)
      repeat' (first
        | exact absurd h2 (by rw [‹twoB u 6 = true›]; decide)
        | refine WL_callB rfl (two_spec u 6) rfl (fun _ => ?_) (fun _ => ?_)
        | refine WL_m rfl (m_callM 13 rfl rfl rfl hrv rfl rfl) ?_
        | refine WL_p hty rfl rfl ?_
        | refine WL_nil ?_
        | refine AC_seq ?_
        | refine AC_region ?_
        | refine AC_block ?_
        | refine AC_skip ?_
        | refine AC_condT rfl ?_
        | refine AC_condF rfl ?_
        | refine AC_exit ?_
        | refine AC_ret ?_
        | refine WL_ung rfl rfl ?_
        | refine WL_offT rfl rfl rfl ?_
        | refine WL_offF rfl rfl rfl ?_
        | refine WL_offU rfl rfl rfl ?_
        | refine WL_m rfl (m_idxN hty rfl rfl rfl (by assumption) rfl) ?_
        | refine ends_bool rfl ?_
        | refine WL_cmp rfl rfl rfl rfl (fun _ => ?_) (fun _ => ?_)
        | refine AC_cond rfl (fun _ => ?_) (fun _ => ?_))
      exact ends_less (less_freeze 13 rfl) (ends_wk rfl rfl (.refl _))

end Go.Proofs.YtpnjflimilamdaaGreat
