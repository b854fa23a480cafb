/-
  The document's answer: contexts of arguments; spines taken apart.; The document's answer: clean terms.; The document's answer: clean terms are those that the program calls clean.; The document's answer: clean terms are those that the program calls clean, walked.; The document's answer: good terms, indices.; The document's answer: indices, telescopes, whether a block is positive.; The document's answer: whether a block is positive.; The document's answer: the greatest constant that a block names.; The document's answer: whether a row of entries is right: just if the program says so.
-/
import Derived.Test.YtlonpgdnmngnmaaGreatGI
import Derived.Test.YtlonpgdnmngnmaaGreatGF
import Derived.Test.YtlonpgdnmngnmaaGreatGB
import Derived.Test.YtlonpgdnmngnmaaGreatGD

/-
  The document's answer: contexts of arguments; spines taken apart.
-/
namespace Go.Proofs.YtlonpgdnmngnmaaGreat
set_option linter.unusedSimpArgs false
set_option linter.unusedVariables false
open Go.Aw Go.RowKit
def tbDocP166_4 : List (Nat × List Nat) := [(0, []), (1, []), (2, []), (3, [2]), (4, [2, 3]), (5, [2, 3, 4]), (6, [2, 3, 4, 5]), (7, [2, 3, 4, 5, 6]), (8, [1, 2, 3, 4, 5, 6, 7]), (9, [0, 1, 2, 3, 4, 5, 6, 7, 8]), (10, [0, 1, 2, 3, 4, 5, 6, 7, 8, 9])]
def tbDocP166_4h0_1000 : List (Nat × List Nat) := [(0, [101000]), (1, []), (2, []), (3, [2]), (4, [2, 3]), (5, [2, 3, 4]), (6, [2, 3, 4, 5]), (7, [2, 3, 4, 5, 6]), (8, [1, 2, 3, 4, 5, 6, 7]), (9, [0, 1, 2, 3, 4, 5, 6, 7, 8]), (10, [0, 1, 2, 3, 4, 5, 6, 7, 8, 9])]
attribute [local irreducible] WL AC WD WE MStep OkOp

/-! spines -/
theorem spN_acc : ∀ (n : Nat) (t : Tm) (acc : List Tm), spN n t acc = ((spN n t []).1, acc ++ (spN n t []).2)
  | 0, t, acc => by simp [spN]
  | n + 1, t, acc => by
    by_cases h2 : twoB t 6 = true
    · obtain ⟨f, a, hk⟩ := two_kids h2
      rw [spN_step h2 hk, spN_step h2 hk, spN_acc n f (acc ++ [a]), spN_acc n f ([] ++ [a])]
      simp
    · have h2 : twoB t 6 = false := by simpa using h2
      rw [spN_end h2, spN_end h2]; simp
theorem split_app {t f a : Tm} (h : twoB t 6 = true) (hk : t.kids = [f, a]) : splitT t = ((splitT f).1, (splitT f).2 ++ [a]) := by
  have hs := t.size_eq
  rw [hk] at hs
  simp only [sizes] at hs
  have hp := a.size_pos
  unfold splitT
  rw [show t.size = (t.size - 1) + 1 by omega, spN_step h hk, spN_acc]
  rw [spN_more (t.size - 1) f.size f [] (by omega) (Nat.le_refl _)]
  simp
theorem split_end {t : Tm} (h : twoB t 6 = false) : splitT t = (t, []) := by
  unfold splitT
  rw [spN_end h]; rfl

set_option maxHeartbeats 1000000 in
theorem unspine_all : ∀ n, n ≤ 1048576 → ∀ t : Tm, t.size ≤ n → FC Tryz.prog 166 [aT t] (.tup [aT (splitT t).1, ownT (splitT t).2]) := by
  intro n
  induction n with
  | zero => intro hn t ht; have := t.size_pos; omega
  | succ n ih =>
  intro hn t ht
  have hs := t.size_eq
  have hlen := len_le_sizes t.kids
  by_cases h2 : twoB t 6 = true
  · obtain ⟨f, a, hk⟩ := two_kids h2
    have k6 : t.kind = 6 := by
      simp only [twoB, Bool.and_eq_true, decide_eq_true_eq] at h2; exact h2.1
    have hkl : ((rsT t.kids).length : Int) = 2 := by rw [rsT_length, hk]; rfl
    rw [hk] at hs
    simp only [sizes] at hs
    have ihf := ih (by omega) f (by omega)
    have hta := ktwin_spec a (by omega)
    have hsl := split_sizes f
    have hsl2 := len_le_sizes (splitT f).2
    have r0 : (rsT t.kids)[0]? = some (cT f) := rsT_get (by rw [hk]; rfl)
    have r1 : (rsT t.kids)[1]? = some (cT a) := rsT_get (by rw [hk]; rfl)
    rw [split_app h2 hk]
    show FC _ _ _ (.tup [aT (splitT f).1, ownT ((splitT f).2 ++ [a])])
    have hrr : rsT ((splitT f).2 ++ [a]) = rsT (splitT f).2 ++ [cT a] := by rw [rsT_append, rs1]
    have hlr : (rsT (splitT f).2).length ≤ 1048576 := by rw [rsT_length]; omega
    unfold ownT at ihf ⊢
    rw [hrr]
    generalize rsT (splitT f).2 = rs at ihf hlr ⊢
    generalize (splitT f).1 = g at ihf ⊢
    refine FC_intro hty Tryz.func166 rfl rfl rfl fun w0 => ?_
    cases rs with
    | nil =>
      repeat' (first | exact absurd k6 ‹_› | exact absurd hkl ‹_› | refine WL_m rfl (m_idxN (i := 0) hty rfl rfl rfl r0 rfl) ?_ | refine WL_call 0 rfl ihf rfl rfl rfl ?_ | (refine AC_regK (id := 4) ?_; refine AC_less (less_sub (l := [(1, _), (2, _), (4, _), (5, _)]) (bl := [(1, _), (2, _), (4, _)]) ⟨⟨_, rfl, .inl ⟨.refl _, rfl⟩⟩, ⟨_, rfl, .inl ⟨.refl _, rfl⟩⟩, ⟨_, rfl, .inl ⟨.refl _, rfl⟩⟩, ⟨_, rfl, .inl ⟨.refl _, rfl⟩⟩, trivial⟩ ⟨⟨⟨_, rfl, .refl _⟩, rfl⟩, ⟨⟨_, rfl, .refl _⟩, rfl⟩, ⟨⟨_, rfl, .refl _⟩, rfl⟩, trivial⟩) ?_; refine AC_drawnE (id := 4) tbDocP166_4 rfl (by kernel_rfl) ?_) | refine WE_cons (.inl ⟨rfl, m_idxN (i := 1) hty rfl rfl rfl r1 rfl⟩) ?_ | refine WE_cons (.inl ⟨rfl, m_call 0 rfl hta rfl rfl rfl⟩) ?_ | refine WE_cons (.inl ⟨rfl, m_appF hty 20 rfl rfl rfl rfl rfl rfl rfl (List.cons_ne_nil _ _) (Nat.le_of_ble_eq_true rfl) rfl rfl rfl⟩) ?_ | refine WE_cons (.inl ⟨rfl, stepE_ok hty rfl rfl⟩) ?_ | refine WE_cons (.inl ⟨rfl, m_idxN hty rfl rfl rfl (by assumption) rfl⟩) ?_ | refine WE_nil ⟨by kernel_rfl, ?_⟩ | refine WL_p hty rfl rfl ?_ | refine WL_nil ?_ | refine AC_seq ?_ | refine AC_region ?_ | refine AC_skip ?_ | refine AC_condT rfl ?_ | refine AC_condF rfl ?_ | refine AC_ret ?_ | refine WL_ung rfl rfl ?_ | refine WL_offT rfl rfl rfl ?_ | refine WL_offF rfl rfl rfl ?_ | refine WL_offU rfl rfl rfl ?_ | refine WL_m rfl (m_idxN hty rfl rfl rfl (by assumption) rfl) ?_ | refine ends_bool rfl ?_ | refine WL_cmp rfl rfl rfl rfl (fun _ => ?_) (fun _ => ?_) | refine AC_cond rfl (fun _ => ?_) (fun _ => ?_))
      exact ends_own rfl rfl rfl
    | cons r l =>
      repeat' (first | exact absurd k6 ‹_› | exact absurd hkl ‹_› | refine WL_m rfl (m_idxN (i := 0) hty rfl rfl rfl r0 rfl) ?_ | refine WL_call 0 rfl ihf rfl rfl rfl ?_ | (refine AC_regK (id := 4) ?_; refine AC_less (less_sub (l := [(1, _), (2, _), (4, _), (5, _)]) (bl := [(1, _), (2, _), (4, _), (1000, _)]) ⟨⟨_, rfl, .inl ⟨.refl _, rfl⟩⟩, ⟨_, rfl, .inl ⟨.refl _, rfl⟩⟩, ⟨_, rfl, .inl ⟨.refl _, rfl⟩⟩, ⟨_, rfl, .inl ⟨.refl _, rfl⟩⟩, trivial⟩ ⟨⟨⟨_, rfl, .refl _⟩, rfl⟩, ⟨⟨_, rfl, .refl _⟩, rfl⟩, ⟨⟨_, rfl, .refl _⟩, rfl⟩, ⟨⟨_, rfl, .refl _⟩, rfl⟩, trivial⟩) ?_; refine AC_drawnE (id := 4) tbDocP166_4h0_1000 rfl (by kernel_rfl) ?_) | refine WE_cons (.inl ⟨rfl, m_idxN (i := 1) hty rfl rfl rfl r1 rfl⟩) ?_ | refine WE_cons (.inl ⟨rfl, m_call 0 rfl hta rfl rfl rfl⟩) ?_ | refine WE_cons (.inl ⟨rfl, m_appW hty 20 rfl rfl rfl rfl rfl rfl rfl rfl (List.cons_ne_nil _ _) (by simp only [List.length_cons, List.length_nil] at *; omega) rfl rfl rfl⟩) ?_ | refine WE_cons (.inl ⟨rfl, stepE_ok hty rfl rfl⟩) ?_ | refine WE_cons (.inl ⟨rfl, m_idxN hty rfl rfl rfl (by assumption) rfl⟩) ?_ | refine WE_nil ⟨by kernel_rfl, ?_⟩ | refine WL_p hty rfl rfl ?_ | refine WL_nil ?_ | refine AC_seq ?_ | refine AC_region ?_ | refine AC_skip ?_ | refine AC_condT rfl ?_ | refine AC_condF rfl ?_ | refine AC_ret ?_ | refine WL_ung rfl rfl ?_ | refine WL_offT rfl rfl rfl ?_ | refine WL_offF rfl rfl rfl ?_ | refine WL_offU rfl rfl rfl ?_ | refine WL_m rfl (m_idxN hty rfl rfl rfl (by assumption) rfl) ?_ | refine ends_bool rfl ?_ | refine WL_cmp rfl rfl rfl rfl (fun _ => ?_) (fun _ => ?_) | refine AC_cond rfl (fun _ => ?_) (fun _ => ?_))
      exact ends_own rfl rfl rfl
  · have h2 : twoB t 6 = false := by simpa using h2
    have htw := ktwin_spec t (by omega)
    have hno : ¬ (t.kind = 6 ∧ ((rsT t.kids).length : Int) = 2) := by
      rintro ⟨q1, q2⟩
      rw [rsT_length] at q2
      have : t.kids.length = 2 := by omega
      simp [twoB, q1, this] at h2
    rw [split_end h2]
    refine FC_intro hty Tryz.func166 rfl rfl rfl fun w0 => ?_
    repeat' (first | refine WL_call 0 rfl htw rfl rfl rfl ?_ | refine WL_p hty rfl rfl ?_ | refine WL_nil ?_ | refine AC_seq ?_ | refine AC_region ?_ | refine AC_skip ?_ | refine AC_condT rfl ?_ | refine AC_condF rfl ?_ | refine AC_ret ?_ | refine WL_ung rfl rfl ?_ | refine WL_offT rfl rfl rfl ?_ | refine WL_offF rfl rfl rfl ?_ | refine WL_offU rfl rfl rfl ?_ | refine WL_m rfl (m_idxN hty rfl rfl rfl (by assumption) rfl) ?_ | refine ends_bool rfl ?_ | refine WL_cmp rfl rfl rfl rfl (fun _ => ?_) (fun _ => ?_) | refine AC_cond rfl (fun _ => ?_) (fun _ => ?_))
    all_goals first
      | exact ends_wk rfl rfl (.tup (.cons (.refl _) (.cons (.nil _ _ _) .nil)))
      | (exfalso; exact hno ⟨Decidable.not_not.1 (by assumption), Decidable.not_not.1 (by assumption)⟩)
theorem unspine_spec (t : Tm) (h : t.size ≤ 1048576) : FC Tryz.prog 166 [aT t] (.tup [aT (splitT t).1, ownT (splitT t).2]) := unspine_all 1048576 (Nat.le_refl _) t h

/-! contexts -/
structure Ql where
  b : Bl
  base : Int
  vars : List Int
  args : List Ar
abbrev cQ (p : Ql) : List AV := [.lst 6 (rsS p.b.sorts) false, .lst 6 (rsC p.b.cons) false, .int .i64 p.b.elim, .int .i64 p.base, .lst 1 (rsI p.vars) false, .lst 7 (rsA p.args) false]
abbrev aQ (p : Ql) : AV := .agg (cQ p)
def varsA : Nat → List Ar → List Int
  | _, [] => []
  | i, a :: l => (if a.rc = true then (i : Int) else -1) :: varsA (i + 1) l
def varsOf (l : List Ar) (m : Nat) : List Int := varsA 0 l ++ List.replicate m (-1)
def plQ (b : Bl) (base : Int) (l : List Ar) (m : Nat) : Ql := ⟨b, base, varsOf l m, l⟩
theorem varsA_length : ∀ (l : List Ar) (i : Nat), (varsA i l).length = l.length
  | [], _ => rfl
  | a :: l, i => by simp [varsA, varsA_length l]
theorem varsOf_length (l : List Ar) (m : Nat) : (varsOf l m).length = l.length + m := by simp [varsOf, varsA_length]
theorem varsA_get : ∀ (l : List Ar) (i j : Nat), (varsA i l)[j]? = (l[j]?).map fun a => if a.rc = true then ((i + j : Nat) : Int) else -1
  | [], _, _ => by simp [varsA]
  | a :: l, i, 0 => by simp [varsA]
  | a :: l, i, j + 1 => by
    simp only [varsA, List.getElem?_cons_succ, varsA_get l (i + 1) j]
    rw [show i + 1 + j = i + (j + 1) by omega]
theorem varsA_snoc : ∀ (l : List Ar) (i : Nat) (a : Ar), varsA i (l ++ [a]) = varsA i l ++ [if a.rc = true then ((i + l.length : Nat) : Int) else -1]
  | [], _, _ => by simp [varsA]
  | x :: l, i, a => by
    simp only [List.cons_append, varsA, varsA_snoc l (i + 1) a, List.length_cons]
    rw [show i + 1 + l.length = i + (l.length + 1) by omega]

/-- The argument of a variable. -/
def guardQ (vars : List Int) (n : Int) : Int := if (vars.length : Int) ≤ n then -1 else vars.getD (vars.length - 1 - n.toNat) 0
theorem guardQ_is {args : List Ar} {m : Nat} {t : Tm} (hk : t.kind = 1) (h0 : 0 ≤ t.num) : guardQ (varsOf args m) t.num = if (guardI args m t).2 = true then (guardI args m t).1 else -1 := by
  by_cases h1 : ((args.length + m : Nat) : Int) ≤ t.num
  · have g1 : guardI args m t = (0, false) := by unfold guardI; rw [if_neg]; intro q; omega
    rw [g1]
    unfold guardQ
    rw [varsOf_length, if_pos h1]; rfl
  · unfold guardQ
    rw [varsOf_length, if_neg h1]
    by_cases h2 : (m : Int) ≤ t.num
    · have hi : args.length + m - 1 - t.num.toNat = ((args.length : Int) - 1 - (t.num - m)).toNat := by omega
      have hlt : ((args.length : Int) - 1 - (t.num - m)).toNat < args.length := by omega
      obtain ⟨a, ha, _⟩ := get_of_lt hlt
      have g1 : guardI args m t = ((args.length : Int) - 1 - (t.num - m), a.rc) := by
        unfold guardI
        rw [if_pos (by exact ⟨hk, h2, by omega⟩), ha]
      rw [g1, hi, List.getD_eq_getElem?_getD, varsOf, List.getElem?_append_left (by rw [varsA_length]; exact hlt), varsA_get, ha]
      simp only [Option.map_some, Option.getD_some, Nat.zero_add]
      split
      · omega
      · rfl
    · have g1 : guardI args m t = (0, false) := by unfold guardI; rw [if_neg]; intro q; exact h2 q.2.1
      rw [g1, List.getD_eq_getElem?_getD, varsOf, List.getElem?_append_right (by rw [varsA_length]; omega), List.getElem?_replicate, if_pos (by rw [varsA_length]; omega)]
      rfl

theorem guardedQ_spec (p : Ql) (n : Int) (hl : p.vars.length ≤ 8388608) (hn : 0 ≤ n ∧ n ≤ 65535) : FC Tryz.prog 164 [aQ p, .int .i64 n] (.int .i64 (guardQ p.vars n)) := by
  have w1 : IntKind.i64.wrap (((rsI p.vars).length : Int) - 1) = (p.vars.length : Int) - 1 := by rw [rsI_length]; exact wrap_ok (by omega) (by omega)
  have w3 : IntKind.i64.wrap (IntKind.i64.wrap (((rsI p.vars).length : Int) - 1) - n) = (p.vars.length : Int) - 1 - n := by rw [w1]; exact wrap_ok (by omega) (by omega)
  by_cases hg : (p.vars.length : Int) ≤ n
  · have hgi : guardQ p.vars n = -1 := by unfold guardQ; rw [if_pos hg]
    have hg' : n ≥ ((rsI p.vars).length : Int) := by rw [rsI_length]; exact hg
    rw [hgi]
    refine FC_intro hty Tryz.func164 rfl rfl rfl fun w0 => ?_
    repeat' (first | exact absurd hg' ‹_› | refine WL_p hty rfl rfl ?_ | refine WL_nil ?_ | refine AC_seq ?_ | refine AC_region ?_ | refine AC_skip ?_ | refine AC_condT rfl ?_ | refine AC_condF rfl ?_ | refine AC_ret ?_ | refine WL_m rfl (m_idxN hty rfl rfl rfl (by assumption) rfl) ?_ | refine ends_bool rfl ?_ | refine WL_cmp rfl rfl rfl rfl (fun _ => ?_) (fun _ => ?_) | refine AC_cond rfl (fun _ => ?_) (fun _ => ?_))
    exact ends_int rfl rfl
  · have hlt : ((p.vars.length : Int) - 1 - n).toNat < p.vars.length := by omega
    have hgi : guardQ p.vars n = p.vars[((p.vars.length : Int) - 1 - n).toNat] := by
      unfold guardQ
      rw [if_neg hg, List.getD_eq_getElem?_getD, show p.vars.length - 1 - n.toNat = ((p.vars.length : Int) - 1 - n).toNat by omega, List.getElem?_eq_getElem hlt]; rfl
    have hg' : ¬ n ≥ ((rsI p.vars).length : Int) := by rw [rsI_length]; exact hg
    have ra : (rsI p.vars)[(IntKind.i64.wrap (IntKind.i64.wrap (((rsI p.vars).length : Int) - 1) - n)).toNat]? = some [.int .i64 (guardQ p.vars n)] := by
      rw [w3, hgi]; exact rsI_get (List.getElem?_eq_getElem hlt)
    have n0 : 0 ≤ IntKind.i64.wrap (IntKind.i64.wrap (((rsI p.vars).length : Int) - 1) - n) := by omega
    refine FC_intro hty Tryz.func164 rfl rfl rfl fun w0 => ?_
    repeat' (first | exact absurd (by assumption) hg' | refine WL_m rfl (m_idxL hty rfl rfl rfl n0 ra rfl) ?_ | refine WL_p hty rfl rfl ?_ | refine WL_nil ?_ | refine AC_seq ?_ | refine AC_region ?_ | refine AC_skip ?_ | refine AC_condT rfl ?_ | refine AC_condF rfl ?_ | refine AC_ret ?_ | refine WL_m rfl (m_idxN hty rfl rfl rfl (by assumption) rfl) ?_ | refine ends_bool rfl ?_ | refine WL_cmp rfl rfl rfl rfl (fun _ => ?_) (fun _ => ?_) | refine AC_cond rfl (fun _ => ?_) (fun _ => ?_))
    exact ends_int rfl rfl

end Go.Proofs.YtlonpgdnmngnmaaGreat

/-
  The document's answer: clean terms.
-/
namespace Go.Proofs.YtlonpgdnmngnmaaGreat
set_option linter.unusedSimpArgs false
set_option linter.unusedVariables false
open Go.Aw Go.RowKit
attribute [local irreducible] WL AC WD WE MStep OkOp

theorem rsI_snoc (l : List Int) (x : Int) : rsI l ++ [[.int .i64 x]] = rsI (l ++ [x]) := by
  induction l with
  | nil => rfl
  | cons a l ih => simp only [rsI, List.map_cons, List.cons_append, List.map_append, List.map_nil]

theorem unspineL_spec (t : Tm) (h : t.size ≤ 1048576) : FC Tryz.prog 166 [aT t] (.tup [aT (splitT t).1, sT (splitT t).2]) := by
  have := unspine_spec t h
  unfold ownT at this
  show FC _ _ _ (.tup [aT (splitT t).1, .lst 3 (rsT (splitT t).2) false])
  generalize rsT (splitT t).2 = rs at this ⊢
  cases rs with
  | nil => exact this.weakT rfl rfl (.cons (.refl _) (.cons (.nilF _ _ _) .nil))
  | cons r l => exact this.seen2 rfl

set_option maxHeartbeats 1000000 in
theorem rat_spec (b : Bl) (base : Int) (l : List Ar) (hl : l.length ≤ 1048576) : FC Tryz.prog 118 [aB b, .int .i64 base, sA l] (aQ (plQ b base l 0)) := by
  refine FC_intro hty Tryz.func118 rfl rfl rfl fun w0 => ?_
  repeat' (first | refine WL_p hty rfl rfl ?_ | refine WL_nil ?_ | refine AC_seq ?_ | refine AC_region ?_ | refine AC_block ?_ | refine AC_skip ?_ | refine AC_condT rfl ?_ | refine AC_condF rfl ?_ | refine AC_exit ?_ | refine AC_ret ?_ | refine WL_m rfl (m_idxN hty rfl rfl rfl (by assumption) rfl) ?_ | refine ends_bool rfl ?_ | refine WL_cmp rfl rfl rfl rfl (fun _ => ?_) (fun _ => ?_) | refine AC_cond rfl (fun _ => ?_) (fun _ => ?_))
  refine AC_less (less_gone 103 rfl) ?_
  refine AC_for l.length (fun _ => True) (fun i => ⟨envOf [(2, sA l), (6, .ptr 6 0), (7, .ptr 7 0), (8, .int .i64 (i : Nat))],
    bkOf [(6, .box [.lst 6 [] true, .lst 6 [] true, .int .i64 0, .int .i64 0, .lst 1 [] true, .lst 7 [] true]), (7, .box [.lst 6 (rsS b.sorts) false, .lst 6 (rsC b.cons) false, .int .i64 b.elim, .int .i64 base, grV 103 1 (rsI (varsA 0 (l.take i))), .lst 7 (rsA l) false]), (103, grB 3 1 (rsI (varsA 0 (l.take i))))]⟩)
    (less_sub ⟨⟨_, rfl, .inl ⟨.refl _, rfl⟩⟩, ⟨_, rfl, .inl ⟨.refl _, rfl⟩⟩, ⟨_, rfl, .inl ⟨.refl _, rfl⟩⟩, ⟨_, rfl, .inl ⟨.refl _, rfl⟩⟩, trivial⟩ ⟨⟨⟨_, rfl, .refl _⟩, rfl⟩, ⟨⟨_, rfl, .refl _⟩, rfl⟩, ⟨⟨_, rfl, .refl _⟩, rfl⟩, trivial⟩) trivial ?_
  intro i hi _
  repeat' (first | refine WL_p hty rfl rfl ?_ | refine WL_nil ?_ | refine AC_seq ?_ | refine AC_region ?_ | refine AC_block ?_ | refine AC_skip ?_ | refine AC_condT rfl ?_ | refine AC_condF rfl ?_ | refine AC_exit ?_ | refine AC_ret ?_ | refine WL_m rfl (m_idxN hty rfl rfl rfl (by assumption) rfl) ?_ | refine ends_bool rfl ?_)
  refine WL_cmp rfl rfl rfl rfl (fun hc => ?_) (fun hc => ?_)
  · have hlt : i < l.length := by rw [rsA_length] at hc; omega
    obtain ⟨a, ha, hmem⟩ := get_of_lt hlt
    have ra := rsA_get ha
    have hnx : varsA 0 (l.take (i + 1)) = varsA 0 (l.take i) ++ [if a.rc = true then (i : Int) else -1] := by
      rw [List.take_add_one, ha, Option.toList_some, varsA_snoc, Nat.zero_add, List.length_take, Nat.min_eq_left (by omega)]
    have hvl : (varsA 0 (l.take i)).length ≤ 1048576 := by rw [varsA_length, List.length_take]; omega
    rw [hnx]
    generalize varsA 0 (l.take i) = vs at hvl ⊢
    obtain ⟨rc, tt, dd, so, ix⟩ := a
    cases rc
    all_goals
      repeat' (first | refine WL_m rfl (m_appG hty 303 rfl rfl rfl rfl rfl rfl rfl (by simp only [rsI_length, List.length_cons, List.length_nil]; omega) rfl rfl rfl) ?_ | refine WL_m rfl (m_storeB hty rfl rfl rfl rfl cellsV_gr rfl rfl rfl) ?_ | refine WL_p hty rfl rfl ?_ | refine WL_nil ?_ | refine AC_seq ?_ | refine AC_region ?_ | refine AC_block ?_ | refine AC_skip ?_ | refine AC_condT rfl ?_ | refine AC_condF rfl ?_ | refine AC_exit ?_ | refine AC_ret ?_ | refine WL_m rfl (m_idxN hty rfl rfl rfl (by assumption) rfl) ?_ | refine ends_bool rfl ?_ | refine WL_cmp rfl rfl rfl rfl (fun _ => ?_) (fun _ => ?_) | refine AC_cond rfl (fun _ => ?_) (fun _ => ?_))
      refine ⟨hlt, trivial, (less_ren [(103, 303)] rfl ⟨⟨_, rfl, .inl ⟨.refl _, rfl⟩⟩, ⟨_, rfl, .inl ⟨.refl _, rfl⟩⟩, ⟨_, rfl, .inl ⟨.refl _, rfl⟩⟩, ⟨_, rfl, see_eq ?_ rfl⟩, trivial⟩ ⟨⟨⟨_, rfl, .refl _⟩, rfl⟩, ?_, ⟨⟨_, rfl, wkB_gr ?_⟩, keepB_gr⟩, trivial⟩)⟩
      · exact congrArg (AV.int .i64) ((wrap_ok (by omega) (by omega)).trans (by omega))
      · exact ⟨⟨_, rfl, .box (.cons (.refl _) (.cons (.refl _) (.cons (.refl _) (.cons (.refl _) (.cons (wk_grS rfl (rsI_snoc _ _)) (.cons (.refl _) .nil))))))⟩, by simp only [keepB, List.all_cons, List.all_nil]; rw [keepS_gr] <;> rfl⟩
      · exact rsI_snoc _ _
  · obtain rfl : i = l.length := by rw [rsA_length] at hc; omega
    rw [List.take_length]
    have hv : varsOf l 0 = varsA 0 l := by simp [varsOf]
    show WL _ _ _ _ _ _ _
    repeat' (first | refine WL_p hty rfl rfl ?_ | refine WL_nil ?_ | refine AC_seq ?_ | refine AC_region ?_ | refine AC_block ?_ | refine AC_skip ?_ | refine AC_condT rfl ?_ | refine AC_condF rfl ?_ | refine AC_exit ?_ | refine AC_ret ?_ | refine WL_m rfl (m_idxN hty rfl rfl rfl (by assumption) rfl) ?_ | refine ends_bool rfl ?_ | refine WL_cmp rfl rfl rfl rfl (fun _ => ?_) (fun _ => ?_) | refine AC_cond rfl (fun _ => ?_) (fun _ => ?_))
    show EndsAs _ _ (.agg [.lst 6 (rsS b.sorts) false, .lst 6 (rsC b.cons) false, .int .i64 b.elim, .int .i64 base, .lst 1 (rsI (varsOf l 0)) false, .lst 7 (rsA l) false]) _ _
    rw [hv]
    generalize rsI (varsA 0 l) = rs
    cases rs with
    | nil => exact ends_wk rfl rfl (.agg (.cons (.refl _) (.cons (.refl _) (.cons (.refl _) (.cons (.refl _) (.cons (.nilF _ _ _) (.cons (.refl _) .nil)))))))
    | cons r rs =>
      refine ends_less (less_freeze 103 rfl) ?_
      exact ends_wk rfl rfl (.refl _)

theorem varsOf_more (l : List Ar) (m n : Nat) : varsOf l (m + n) = varsOf l m ++ List.replicate n (-1) := by
  unfold varsOf; rw [List.append_assoc, List.replicate_append_replicate]
theorem replicate_snoc (n : Nat) : List.replicate (n + 1) (-1 : Int) = List.replicate n (-1) ++ [-1] := List.replicate_succ' ..

set_option maxHeartbeats 4000000 in
theorem rmore_spec (b : Bl) (base : Int) (l : List Ar) (m n : Nat) (hl : l.length ≤ 1048576) (hm : m + n ≤ 2097152) : FC Tryz.prog 163 [aQ (plQ b base l m), .int .i64 (n : Nat)] (aQ (plQ b base l (m + n))) := by
  have hvl : (varsOf l m).length ≤ 3145728 - n := by rw [varsOf_length]; omega
  have hti := twinInts_spec (varsOf l m) false (by omega)
  show FC _ _ [.agg [.lst 6 (rsS b.sorts) false, .lst 6 (rsC b.cons) false, .int .i64 b.elim, .int .i64 base, .lst 1 (rsI (varsOf l m)) false, .lst 7 (rsA l) false], _] (.agg [.lst 6 (rsS b.sorts) false, .lst 6 (rsC b.cons) false, .int .i64 b.elim, .int .i64 base, .lst 1 (rsI (varsOf l (m + n))) false, .lst 7 (rsA l) false])
  rw [varsOf_more]
  generalize varsOf l m = vs at hti hvl ⊢
  refine FC_intro hty Tryz.func163 rfl rfl rfl fun w0 => ?_
  cases vs with
  | nil =>
    repeat' (first | refine WL_call 20 rfl hti rfl rfl rfl ?_ | refine WL_p hty rfl rfl ?_ | refine WL_nil ?_ | refine AC_seq ?_ | refine AC_region ?_ | refine AC_block ?_ | refine AC_skip ?_ | refine AC_condT rfl ?_ | refine AC_condF rfl ?_ | refine AC_exit ?_ | refine AC_ret ?_ | refine ends_bool rfl ?_ | refine WL_cmp rfl rfl rfl rfl (fun _ => ?_) (fun _ => ?_) | refine AC_cond rfl (fun _ => ?_) (fun _ => ?_))
    refine AC_less (less_gone 103 rfl) ?_
    refine AC_for n (fun _ => True) (fun i => ⟨envOf [(1, .int .i64 (n : Nat)), (4, .ptr 4 0), (5, .ptr 5 0), (6, .int .i64 (i : Nat))],
      bkOf [(4, .box [.lst 6 [] true, .lst 6 [] true, .int .i64 0, .int .i64 0, .lst 1 [] true, .lst 7 [] true]), (5, .box [.lst 6 (rsS b.sorts) false, .lst 6 (rsC b.cons) false, .int .i64 b.elim, .int .i64 base, grV 103 1 (rsI ([] ++ List.replicate i (-1))), .lst 7 (rsA l) false]), (103, grB 3 1 (rsI ([] ++ List.replicate i (-1))))]⟩)
      (less_sub ⟨⟨_, rfl, .inl ⟨.refl _, rfl⟩⟩, ⟨_, rfl, .inl ⟨.refl _, rfl⟩⟩, ⟨_, rfl, .inl ⟨.refl _, rfl⟩⟩, ⟨_, rfl, .inl ⟨.refl _, rfl⟩⟩, trivial⟩ ⟨⟨⟨_, rfl, .refl _⟩, rfl⟩, ⟨⟨_, rfl, .refl _⟩, rfl⟩, ⟨⟨_, rfl, .refl _⟩, rfl⟩, trivial⟩) trivial ?_
    · intro i hi _
      repeat' (first | refine WL_p hty rfl rfl ?_ | refine WL_nil ?_ | refine AC_seq ?_ | refine AC_region ?_ | refine AC_block ?_ | refine AC_skip ?_ | refine AC_condT rfl ?_ | refine AC_condF rfl ?_ | refine AC_exit ?_ | refine AC_ret ?_ | refine ends_bool rfl ?_)
      refine WL_cmp rfl rfl rfl rfl (fun hc => ?_) (fun hc => ?_)
      · have hlt : i < n := by omega
        repeat' (first | refine WL_m rfl (m_appG hty 303 rfl rfl rfl rfl rfl rfl rfl (by simp only [rsI_length, List.length_append, List.length_replicate, List.length_cons, List.length_nil] at *; omega) rfl rfl rfl) ?_ | refine WL_m rfl (m_storeB hty rfl rfl rfl rfl cellsV_gr rfl rfl rfl) ?_ | refine WL_p hty rfl rfl ?_ | refine WL_nil ?_ | refine AC_seq ?_ | refine AC_region ?_ | refine AC_block ?_ | refine AC_skip ?_ | refine AC_condT rfl ?_ | refine AC_condF rfl ?_ | refine AC_exit ?_ | refine AC_ret ?_ | refine ends_bool rfl ?_ | refine WL_cmp rfl rfl rfl rfl (fun _ => ?_) (fun _ => ?_) | refine AC_cond rfl (fun _ => ?_) (fun _ => ?_))
        rw [replicate_snoc, ← List.append_assoc, ← rsI_snoc]
        refine ⟨hlt, trivial, (less_ren [(103, 303)] rfl ⟨⟨_, rfl, .inl ⟨.refl _, rfl⟩⟩, ⟨_, rfl, .inl ⟨.refl _, rfl⟩⟩, ⟨_, rfl, .inl ⟨.refl _, rfl⟩⟩, ⟨_, rfl, see_eq ?_ rfl⟩, trivial⟩ ⟨⟨⟨_, rfl, .refl _⟩, rfl⟩, ?_, ⟨⟨_, rfl, wkB_gr ?_⟩, keepB_gr⟩, trivial⟩)⟩
        · exact congrArg (AV.int .i64) ((wrap_ok (by omega) (by omega)).trans (by omega))
        · exact ⟨⟨_, rfl, .box (.cons (.refl _) (.cons (.refl _) (.cons (.refl _) (.cons (.refl _) (.cons (wk_grS rfl rfl) (.cons (.refl _) .nil))))))⟩, by simp only [keepB, List.all_cons, List.all_nil]; rw [keepS_gr] <;> rfl⟩
        · rfl
      · obtain rfl : i = n := by omega
        repeat' (first | refine WL_p hty rfl rfl ?_ | refine WL_nil ?_ | refine AC_seq ?_ | refine AC_region ?_ | refine AC_block ?_ | refine AC_skip ?_ | refine AC_condT rfl ?_ | refine AC_condF rfl ?_ | refine AC_exit ?_ | refine AC_ret ?_ | refine ends_bool rfl ?_ | refine WL_cmp rfl rfl rfl rfl (fun _ => ?_) (fun _ => ?_) | refine AC_cond rfl (fun _ => ?_) (fun _ => ?_))
        generalize rsI (_ ++ List.replicate i (-1)) = rs
        cases rs with
        | nil => exact ends_wk rfl rfl (.agg (.cons (.refl _) (.cons (.refl _) (.cons (.refl _) (.cons (.refl _) (.cons (.nilF _ _ _) (.cons (.refl _) .nil)))))))
        | cons r rs =>
          refine ends_less (less_freeze 103 rfl) ?_
          exact ends_wk rfl rfl (.refl _)
  | cons x r =>
    repeat' (first | refine WL_call 20 rfl hti rfl rfl rfl ?_ | refine WL_p hty rfl rfl ?_ | refine WL_nil ?_ | refine AC_seq ?_ | refine AC_region ?_ | refine AC_block ?_ | refine AC_skip ?_ | refine AC_condT rfl ?_ | refine AC_condF rfl ?_ | refine AC_exit ?_ | refine AC_ret ?_ | refine ends_bool rfl ?_ | refine WL_cmp rfl rfl rfl rfl (fun _ => ?_) (fun _ => ?_) | refine AC_cond rfl (fun _ => ?_) (fun _ => ?_))
    refine AC_for n (fun _ => True) (fun i => ⟨envOf [(1, .int .i64 (n : Nat)), (4, .ptr 4 0), (5, .ptr 5 0), (6, .int .i64 (i : Nat))],
      bkOf [(4, .box [.lst 6 [] true, .lst 6 [] true, .int .i64 0, .int .i64 0, .lst 1 [] true, .lst 7 [] true]), (5, .box [.lst 6 (rsS b.sorts) false, .lst 6 (rsC b.cons) false, .int .i64 b.elim, .int .i64 base, grV 103 1 (rsI ((x :: r) ++ List.replicate i (-1))), .lst 7 (rsA l) false]), (103, grB 3 1 (rsI ((x :: r) ++ List.replicate i (-1))))]⟩)
      (less_ren [(103, 20)] rfl ⟨⟨_, rfl, .inl ⟨.refl _, rfl⟩⟩, ⟨_, rfl, .inl ⟨.refl _, rfl⟩⟩, ⟨_, rfl, .inl ⟨.refl _, rfl⟩⟩, ⟨_, rfl, .inl ⟨.refl _, rfl⟩⟩, trivial⟩ ⟨⟨⟨_, rfl, .refl _⟩, rfl⟩, ?_, ?_, trivial⟩) trivial ?_
    · exact ⟨⟨_, rfl, .box (.cons (.refl _) (.cons (.refl _) (.cons (.refl _) (.cons (.refl _) (.cons (Wk.refl (.arr 20)) (.cons (.refl _) .nil))))))⟩, by simp only [keepB, List.all_cons, List.all_nil]; rw [keepS_gr] <;> rfl⟩
    · exact ⟨⟨_, rfl, .of_eq (by simp [grB, rsI, rnB])⟩, keepB_gr⟩
    · intro i hi _
      repeat' (first | refine WL_p hty rfl rfl ?_ | refine WL_nil ?_ | refine AC_seq ?_ | refine AC_region ?_ | refine AC_block ?_ | refine AC_skip ?_ | refine AC_condT rfl ?_ | refine AC_condF rfl ?_ | refine AC_exit ?_ | refine AC_ret ?_ | refine ends_bool rfl ?_)
      refine WL_cmp rfl rfl rfl rfl (fun hc => ?_) (fun hc => ?_)
      · have hlt : i < n := by omega
        repeat' (first | refine WL_m rfl (m_appG hty 303 rfl rfl rfl rfl rfl rfl rfl (by simp only [rsI_length, List.length_append, List.length_replicate, List.length_cons, List.length_nil] at *; omega) rfl rfl rfl) ?_ | refine WL_m rfl (m_storeB hty rfl rfl rfl rfl cellsV_gr rfl rfl rfl) ?_ | refine WL_p hty rfl rfl ?_ | refine WL_nil ?_ | refine AC_seq ?_ | refine AC_region ?_ | refine AC_block ?_ | refine AC_skip ?_ | refine AC_condT rfl ?_ | refine AC_condF rfl ?_ | refine AC_exit ?_ | refine AC_ret ?_ | refine ends_bool rfl ?_ | refine WL_cmp rfl rfl rfl rfl (fun _ => ?_) (fun _ => ?_) | refine AC_cond rfl (fun _ => ?_) (fun _ => ?_))
        rw [replicate_snoc, ← List.append_assoc, ← rsI_snoc]
        refine ⟨hlt, trivial, (less_ren [(103, 303)] rfl ⟨⟨_, rfl, .inl ⟨.refl _, rfl⟩⟩, ⟨_, rfl, .inl ⟨.refl _, rfl⟩⟩, ⟨_, rfl, .inl ⟨.refl _, rfl⟩⟩, ⟨_, rfl, see_eq ?_ rfl⟩, trivial⟩ ⟨⟨⟨_, rfl, .refl _⟩, rfl⟩, ?_, ⟨⟨_, rfl, wkB_gr ?_⟩, keepB_gr⟩, trivial⟩)⟩
        · exact congrArg (AV.int .i64) ((wrap_ok (by omega) (by omega)).trans (by omega))
        · exact ⟨⟨_, rfl, .box (.cons (.refl _) (.cons (.refl _) (.cons (.refl _) (.cons (.refl _) (.cons (wk_grS rfl rfl) (.cons (.refl _) .nil))))))⟩, by simp only [keepB, List.all_cons, List.all_nil]; rw [keepS_gr] <;> rfl⟩
        · rfl
      · obtain rfl : i = n := by omega
        repeat' (first | refine WL_p hty rfl rfl ?_ | refine WL_nil ?_ | refine AC_seq ?_ | refine AC_region ?_ | refine AC_block ?_ | refine AC_skip ?_ | refine AC_condT rfl ?_ | refine AC_condF rfl ?_ | refine AC_exit ?_ | refine AC_ret ?_ | refine ends_bool rfl ?_ | refine WL_cmp rfl rfl rfl rfl (fun _ => ?_) (fun _ => ?_) | refine AC_cond rfl (fun _ => ?_) (fun _ => ?_))
        generalize rsI (_ ++ List.replicate i (-1)) = rs
        cases rs with
        | nil => exact ends_wk rfl rfl (.agg (.cons (.refl _) (.cons (.refl _) (.cons (.refl _) (.cons (.refl _) (.cons (.nilF _ _ _) (.cons (.refl _) .nil)))))))
        | cons r rs =>
          refine ends_less (less_freeze 103 rfl) ?_
          exact ends_wk rfl rfl (.refl _)

end Go.Proofs.YtlonpgdnmngnmaaGreat

/-
  The document's answer: clean terms are those that the program calls clean.
-/
namespace Go.Proofs.YtlonpgdnmngnmaaGreat
set_option linter.unusedSimpArgs false
set_option linter.unusedVariables false
open Go.Aw Go.RowKit
def tbDocC2167_4 : List (Nat × List Nat) := [(0, []), (1, []), (2, []), (3, [1, 2]), (4, [1, 2, 3]), (5, [0, 1, 2, 3, 4]), (6, [0, 1, 2, 3, 4, 5])]
def tbDocC2167_12 : List (Nat × List Nat) := [(0, []), (1, []), (2, []), (3, [1, 2]), (4, [1, 2, 3]), (5, [0, 1, 2, 3, 4]), (6, [0, 1, 2, 3, 4, 5])]
attribute [local irreducible] WL AC WD WE MStep OkOp

theorem guardI_kind {args : List Ar} {m : Int} {t : Tm} (h : t.kind ≠ 1) : (guardI args m t).2 = false := by
  unfold guardI; rw [if_neg (fun q => h q.1)]
theorem guardQ_neg {args : List Ar} {m : Nat} {t : Tm} (hk : t.kind = 1) (h0 : 0 ≤ t.num) : (guardQ (varsOf args m) t.num < 0) ↔ (guardI args m t).2 = false := by
  rw [guardQ_is hk h0]
  cases hg : (guardI args m t).2 with
  | false => simp
  | true =>
    have := (guardI_true hg).1
    rw [if_pos rfl]
    simp only [Bool.true_eq_false, iff_false]; omega

def decR (g : Tm → Bool) (args : List Ar) (m : Int) (l : List Tm) : Bool := (l.take (l.length - 1)).all g && ((guardI args m (splitT (l.getD (l.length - 1) zT)).1).2 && (splitT (l.getD (l.length - 1) zT)).2.all g)
theorem decR_G {g : Tm → Bool} {p : Pl} {t : Tm} (h1 : (splitT t).1.kind = 3) (h2 : (ofB p.b p.base (splitT t).1.num).1 = 4) (h3 : (splitT t).2.length = idxN p.b (ofB p.b p.base (splitT t).1.num).2 + 1) : decodesG g p t = decR g p.args p.more (splitT t).2 := by
  unfold decodesG decR
  rw [decide_eq_true h1, decide_eq_true h2, decide_eq_true h3]
  simp only [Bool.true_and]
  cases (guardI p.args p.more (splitT ((splitT t).2.getD ((splitT t).2.length - 1) zT)).1).2 <;> simp

theorem spine_bad (b : Bl) (base : Int) (args : List Ar) : ∀ (n : Nat) (t : Tm) (m : Int), t.size ≤ n → (splitT t).1.kind = 3 → (ofB b base (splitT t).1.num).1 = 4 → (splitT t).2.length < idxN b (ofB b base (splitT t).1.num).2 + 1 → cleanF b base args n m t = false
  | 0, t, m, h, _, _, _ => absurd t.size_pos (by omega)
  | n + 1, t, m, h, h1, h2, h3 => by
    by_cases h6 : twoB t 6 = true
    · obtain ⟨f, a, hk⟩ := two_kids h6
      have k6 : t.kind = 6 := by
        simp only [twoB, Bool.and_eq_true, decide_eq_true_eq] at h6; exact h6.1
      have hs := t.size_eq
      rw [hk] at hs
      simp only [sizes] at hs
      have hsp := split_app h6 hk
      have hd : decodesG (cleanF b base args n m) ⟨b, base, args, m⟩ t = false := by
        unfold decodesG
        rw [show decide ((splitT t).2.length = idxN b (ofB b base (splitT t).1.num).2 + 1) = false from decide_eq_false (by omega)]
        simp
      have ih := spine_bad b base args n f m (by omega) (by rw [hsp] at h1; exact h1) (by rw [hsp] at h2; exact h2) (by rw [hsp] at h3; simp only [List.length_append, List.length_cons, List.length_nil] at h3; omega)
      rw [cleanF, if_neg (by omega), if_neg (by omega), if_neg (fun q => by rw [hd] at q; exact Bool.false_ne_true q.2), hk, k6]
      simp only [kidsAll]
      rw [show m + bindsR 6 0 = m by simp [bindsR], ih]; rfl
    · have h6 : twoB t 6 = false := by simpa using h6
      rw [split_end h6] at h1 h2
      have h1 : t.kind = 3 := h1
      have h2 : (ofB b base t.num).1 = 4 := h2
      rw [cleanF, if_neg (by omega), if_pos h1]
      exact decide_eq_false (by omega)

theorem clean_decodes {b : Bl} {base : Int} {args : List Ar} {n : Nat} {m : Int} {t : Tm} (h : t.size ≤ n + 1) (k6 : twoB t 6 = true) (h1 : (splitT t).1.kind = 3) (h2 : (ofB b base (splitT t).1.num).1 = 4) (h3 : (splitT t).2.length = idxN b (ofB b base (splitT t).1.num).2 + 1) :
    cleanF b base args (n + 1) m t = decR (cleanF b base args n m) args m (splitT t).2 := by
  have k := k6
  obtain ⟨f, a, hk⟩ := two_kids k6
  simp only [twoB, Bool.and_eq_true, decide_eq_true_eq] at k
  have hs := t.size_eq
  rw [hk] at hs
  simp only [sizes] at hs
  have hsp := split_app k6 hk
  have hg := decR_G (g := cleanF b base args n m) (p := ⟨b, base, args, m⟩) h1 h2 h3
  rw [cleanF, if_neg (by omega), if_neg (by omega)]
  cases hd : decodesG (cleanF b base args n m) ⟨b, base, args, m⟩ t with
  | true => rw [if_pos ⟨k.1, rfl⟩, ← hg, hd]
  | false =>
    rw [if_neg (fun q => Bool.false_ne_true q.2), ← hg, hd, hk, k.1]
    have := spine_bad b base args n f m (by omega) (by rw [hsp] at h1; exact h1) (by rw [hsp] at h2; exact h2) (by rw [hsp] at h3; simp only [List.length_append, List.length_cons, List.length_nil] at h3; omega)
    simp only [kidsAll]
    rw [show m + bindsR 6 0 = m by simp [bindsR], this]; rfl

set_option maxRecDepth 4000 in
set_option maxHeartbeats 4000000 in
theorem rdecoding_spec (b : Bl) (base : Int) (args : List Ar) (m : Nat) (l : List Tm) (g : Tm → Bool) (D : Nat) (hl : args.length ≤ 1048576) (hm : m ≤ 2097152) (hne : l ≠ []) (hs : sizes l ≤ 1048576) (hsub : ∀ a, a ∈ l → Sub D a)
    (h : ∀ a : Tm, a.size ≤ sizes l → formedT a = true → a.depth ≤ D → FC Tryz.prog 119 [aQ (plQ b base args m), aT a] (.bool (g a))) :
    FC Tryz.prog 167 [aQ (plQ b base args m), sT l] (.bool (decR g args m l)) := by
  have hll := len_le_sizes l
  have hlp : 0 < l.length := List.length_pos_iff.2 hne
  obtain ⟨la, hla, hlm⟩ := get_of_lt (show l.length - 1 < l.length by omega)
  have hgd : l.getD (l.length - 1) zT = la := by rw [List.getD_eq_getElem?_getD, hla]; rfl
  have rla := rsT_get hla
  have hlas := size_le_sizes hlm
  have w1 : IntKind.i64.wrap (((rsT l).length : Int) - 1) = ((l.length - 1 : Nat) : Int) := by rw [rsT_length]; exact (wrap_ok (by omega) (by omega)).trans (by omega)
  have hd : decR g args m l = (!((l.take (l.length - 1)).any fun t => !g t) && ((guardI args m (splitT la).1).2 && !((splitT la).2.any fun t => !g t))) := by
    unfold decR; rw [hgd, all_not_any, all_not_any]
  have hun := unspineL_spec la (by omega)
  have hsz := split_sizes la
  obtain ⟨hj1, hj2⟩ := split_inv (Sub D) Sub.kid (t := la) (hsub la hlm)
  have hnum := formedT_numle hj1.1
  have hvl := varsOf_length args m
  have hgu := guardedQ_spec (plQ b base args m) (splitT la).1.num (by show (varsOf args m).length ≤ _; omega) hnum
  have hgn : (splitT la).1.kind = 1 → (guardQ (varsOf args m) (splitT la).1.num < 0 ↔ (guardI args m (splitT la).1).2 = false) := fun q => guardQ_neg q hnum.1
  have hgk : (splitT la).1.kind ≠ 1 → (guardI args m (splitT la).1).2 = false := guardI_kind
  rw [hd]
  replace hgu : FC Tryz.prog 164 [aQ (plQ b base args m), .int .i64 (splitT la).1.num] (.int .i64 (guardQ (varsOf args m) (splitT la).1.num)) := hgu
  generalize guardQ (varsOf args m) (splitT la).1.num = gq at hgu hgn
  generalize (guardI args m (splitT la).1).2 = gb at hgn hgk ⊢
  have n0 : 0 ≤ IntKind.i64.wrap (((rsT l).length : Int) - 1) := by rw [w1]; exact Int.natCast_nonneg _
  have rlw : (rsT l)[(IntKind.i64.wrap (((rsT l).length : Int) - 1)).toNat]? = some (cT la) := by rw [w1]; exact rla
  have hll2 := len_le_sizes (splitT la).2
  refine FC_intro hty Tryz.func167 rfl rfl rfl fun w0 => ?_
  repeat' (first | refine WL_p hty rfl rfl ?_ | refine WL_nil ?_ | refine AC_seq ?_ | refine AC_region ?_ | refine AC_block ?_ | refine AC_skip ?_ | refine AC_condT rfl ?_ | refine AC_condF rfl ?_ | refine AC_exit ?_ | refine AC_ret ?_ | refine WL_ung rfl rfl ?_ | refine WL_offT rfl rfl rfl ?_ | refine WL_offF rfl rfl rfl ?_ | refine WL_offU rfl rfl rfl ?_ | refine WL_m rfl (m_idxN hty rfl rfl rfl (by assumption) rfl) ?_ | refine ends_bool rfl ?_ | refine WL_cmp rfl rfl rfl rfl (fun _ => ?_) (fun _ => ?_) | refine AC_cond rfl (fun _ => ?_) (fun _ => ?_))
  refine AC_for (l.length - 1) (fun j => (l.take j).any (fun t => !g t) = false) (fun j => ⟨envOf [(1, sT l), (2, .ptr 2 0), (5, .int .i64 (j : Nat))], bkOf [(2, .box (cQ (plQ b base args m)))]⟩) (less_sub ⟨⟨_, rfl, .inl ⟨.refl _, rfl⟩⟩, ⟨_, rfl, .inl ⟨.refl _, rfl⟩⟩, ⟨_, rfl, .inl ⟨.refl _, rfl⟩⟩, trivial⟩ ⟨⟨⟨_, rfl, .refl _⟩, rfl⟩, trivial⟩) rfl ?_
  intro j hj hI
  repeat' (first | refine WL_p hty rfl rfl ?_ | refine WL_nil ?_ | refine AC_seq ?_ | refine AC_region ?_ | refine AC_block ?_ | refine AC_skip ?_ | refine AC_condT rfl ?_ | refine AC_condF rfl ?_ | refine AC_exit ?_ | refine AC_ret ?_ | refine WL_ung rfl rfl ?_ | refine WL_offT rfl rfl rfl ?_ | refine WL_offF rfl rfl rfl ?_ | refine WL_offU rfl rfl rfl ?_ | refine WL_m rfl (m_idxN hty rfl rfl rfl (by assumption) rfl) ?_ | refine ends_bool rfl ?_)
  refine WL_cmp rfl rfl rfl rfl (fun hc => ?_) (fun hc => ?_)
  · have hlt : j < l.length - 1 := by rw [w1] at hc; omega
    obtain ⟨k, hk, hmem⟩ := get_of_lt (show j < l.length by omega)
    have rk := rsT_get hk
    have hks := size_le_sizes hmem
    have hck := h k hks (hsub k hmem).1 (hsub k hmem).2
    have hat := any_take_succ (p := fun t => !g t) hk
    repeat' (first | refine AC_drawnE (id := 4) tbDocC2167_4 rfl (by kernel_rfl) ?_ | refine WE_callB rfl hck rfl (fun _ => ?_) (fun _ => ?_) | refine WE_cons (.inl ⟨rfl, stepE_ok hty rfl rfl⟩) ?_ | refine WE_cons (.inl ⟨rfl, m_idxN hty rfl rfl rfl (by assumption) rfl⟩) ?_ | refine WE_nil ⟨by kernel_rfl, ?_⟩ | refine WL_p hty rfl rfl ?_ | refine WL_nil ?_ | refine AC_seq ?_ | refine AC_region ?_ | refine AC_block ?_ | refine AC_skip ?_ | refine AC_condT rfl ?_ | refine AC_condF rfl ?_ | refine AC_exit ?_ | refine AC_ret ?_ | refine WL_ung rfl rfl ?_ | refine WL_offT rfl rfl rfl ?_ | refine WL_offF rfl rfl rfl ?_ | refine WL_offU rfl rfl rfl ?_ | refine WL_m rfl (m_idxN hty rfl rfl rfl (by assumption) rfl) ?_ | refine ends_bool rfl ?_ | refine WL_cmp rfl rfl rfl rfl (fun _ => ?_) (fun _ => ?_) | refine AC_cond rfl (fun _ => ?_) (fun _ => ?_))
    · rename_i hg
      refine ⟨hlt, by rw [hat, hI, hg]; rfl, (less_sub ⟨⟨_, rfl, .inl ⟨.refl _, rfl⟩⟩, ⟨_, rfl, .inl ⟨.refl _, rfl⟩⟩, ⟨_, rfl, see_eq ?_ rfl⟩, trivial⟩ ⟨⟨⟨_, rfl, .refl _⟩, rfl⟩, trivial⟩)⟩
      exact congrArg (AV.int .i64) ((wrap_ok (by omega) (by omega)).trans (by omega))
    · rename_i hg
      have hk2 : (l.take (l.length - 1))[j]? = some k := by rw [List.getElem?_take, if_pos hlt]; exact hk
      rw [any_of_get (p := fun t => !g t) hk2 (by simp [hg])]; rfl
  · obtain rfl : j = l.length - 1 := by rw [w1] at hc; omega
    rw [hI]
    repeat' (first | refine WL_call 0 rfl hun rfl rfl rfl ?_ | refine WL_m rfl (m_idxL hty rfl rfl rfl n0 rlw rfl) ?_ | refine WL_call 0 rfl hgu rfl rfl rfl ?_ | refine WL_p hty rfl rfl ?_ | refine WL_nil ?_ | refine AC_seq ?_ | refine AC_region ?_ | refine AC_block ?_ | refine AC_skip ?_ | refine AC_condT rfl ?_ | refine AC_condF rfl ?_ | refine AC_exit ?_ | refine AC_ret ?_ | refine WL_ung rfl rfl ?_ | refine WL_offT rfl rfl rfl ?_ | refine WL_offF rfl rfl rfl ?_ | refine WL_offU rfl rfl rfl ?_ | refine WL_m rfl (m_idxN hty rfl rfl rfl (by assumption) rfl) ?_ | refine ends_bool rfl ?_ | refine WL_cmp rfl rfl rfl rfl (fun _ => ?_) (fun _ => ?_) | refine AC_cond rfl (fun _ => ?_) (fun _ => ?_))
    · rw [hgk (by assumption)]; rfl
    · rw [(hgn (Decidable.not_not.1 (by assumption))).1 (by assumption)]; rfl
    · have hgb : gb = true := by
        have := hgn (Decidable.not_not.1 (by assumption))
        cases gb
        · exact absurd (this.2 rfl) (by assumption)
        · rfl
      rw [hgb]
      refine AC_for (splitT la).2.length (fun j => ((splitT la).2.take j).any (fun t => !g t) = false) (fun j => ⟨envOf [(2, .ptr 2 0), (7, sT (splitT la).2), (8, .int .i64 (j : Nat))], bkOf [(2, .box (cQ (plQ b base args m)))]⟩) (less_sub ⟨⟨_, rfl, .inl ⟨.refl _, rfl⟩⟩, ⟨_, rfl, .inl ⟨.refl _, rfl⟩⟩, ⟨_, rfl, .inl ⟨.refl _, rfl⟩⟩, trivial⟩ ⟨⟨⟨_, rfl, .refl _⟩, rfl⟩, trivial⟩) rfl ?_
      intro j hj hI
      repeat' (first | refine WL_p hty rfl rfl ?_ | refine WL_nil ?_ | refine AC_seq ?_ | refine AC_region ?_ | refine AC_block ?_ | refine AC_skip ?_ | refine AC_condT rfl ?_ | refine AC_condF rfl ?_ | refine AC_exit ?_ | refine AC_ret ?_ | refine WL_ung rfl rfl ?_ | refine WL_offT rfl rfl rfl ?_ | refine WL_offF rfl rfl rfl ?_ | refine WL_offU rfl rfl rfl ?_ | refine WL_m rfl (m_idxN hty rfl rfl rfl (by assumption) rfl) ?_ | refine ends_bool rfl ?_)
      refine WL_cmp rfl rfl rfl rfl (fun hc => ?_) (fun hc => ?_)
      · have hlt : j < (splitT la).2.length := by rw [rsT_length] at hc; omega
        obtain ⟨k, hk, hmem⟩ := get_of_lt hlt
        have rk := rsT_get hk
        have hks := size_le_sizes hmem
        have hck := h k (by omega) (hj2 k hmem).1 (hj2 k hmem).2
        have hat := any_take_succ (p := fun t => !g t) hk
        repeat' (first | refine AC_drawnE (id := 12) tbDocC2167_12 rfl (by kernel_rfl) ?_ | refine WE_callB rfl hck rfl (fun _ => ?_) (fun _ => ?_) | refine WE_cons (.inl ⟨rfl, stepE_ok hty rfl rfl⟩) ?_ | refine WE_cons (.inl ⟨rfl, m_idxN hty rfl rfl rfl (by assumption) rfl⟩) ?_ | refine WE_nil ⟨by kernel_rfl, ?_⟩ | refine WL_p hty rfl rfl ?_ | refine WL_nil ?_ | refine AC_seq ?_ | refine AC_region ?_ | refine AC_block ?_ | refine AC_skip ?_ | refine AC_condT rfl ?_ | refine AC_condF rfl ?_ | refine AC_exit ?_ | refine AC_ret ?_ | refine WL_ung rfl rfl ?_ | refine WL_offT rfl rfl rfl ?_ | refine WL_offF rfl rfl rfl ?_ | refine WL_offU rfl rfl rfl ?_ | refine WL_m rfl (m_idxN hty rfl rfl rfl (by assumption) rfl) ?_ | refine ends_bool rfl ?_ | refine WL_cmp rfl rfl rfl rfl (fun _ => ?_) (fun _ => ?_) | refine AC_cond rfl (fun _ => ?_) (fun _ => ?_))
        · rename_i hg
          refine ⟨hlt, by rw [hat, hI, hg]; rfl, (less_sub ⟨⟨_, rfl, .inl ⟨.refl _, rfl⟩⟩, ⟨_, rfl, .inl ⟨.refl _, rfl⟩⟩, ⟨_, rfl, see_eq ?_ rfl⟩, trivial⟩ ⟨⟨⟨_, rfl, .refl _⟩, rfl⟩, trivial⟩)⟩
          exact congrArg (AV.int .i64) ((wrap_ok (by omega) (by omega)).trans (by omega))
        · rename_i hg
          rw [any_of_get (p := fun t => !g t) hk (by simp [hg])]; rfl
      · obtain rfl : j = (splitT la).2.length := by rw [rsT_length] at hc; omega
        rw [List.take_length] at hI
        rw [hI]
        repeat' (first | refine WL_p hty rfl rfl ?_ | refine WL_nil ?_ | refine AC_seq ?_ | refine AC_region ?_ | refine AC_block ?_ | refine AC_skip ?_ | refine AC_condT rfl ?_ | refine AC_condF rfl ?_ | refine AC_exit ?_ | refine AC_ret ?_ | refine WL_ung rfl rfl ?_ | refine WL_offT rfl rfl rfl ?_ | refine WL_offF rfl rfl rfl ?_ | refine WL_offU rfl rfl rfl ?_ | refine WL_m rfl (m_idxN hty rfl rfl rfl (by assumption) rfl) ?_ | refine ends_bool rfl ?_ | refine WL_cmp rfl rfl rfl rfl (fun _ => ?_) (fun _ => ?_) | refine AC_cond rfl (fun _ => ?_) (fun _ => ?_))
        rfl

end Go.Proofs.YtlonpgdnmngnmaaGreat

/-
  The document's answer: clean terms are those that the program calls clean, walked.
-/
namespace Go.Proofs.YtlonpgdnmngnmaaGreat
set_option linter.unusedSimpArgs false
set_option linter.unusedVariables false
open Go.Aw Go.RowKit
def tbDocC3119_15 : List (Nat × List Nat) := [(0, []), (1, []), (2, [1]), (3, []), (4, [1, 2, 3]), (5, [0, 1, 2, 3, 4]), (6, []), (7, [6]), (8, []), (9, [6, 7, 8]), (10, [6, 7, 8, 9]), (11, [0, 1, 2, 3, 4, 5, 6, 7, 8, 9, 10]), (12, [0, 1, 2, 3, 4, 5, 6, 7, 8, 9, 10, 11])]
attribute [local irreducible] WL AC WD WE MStep OkOp

theorem formed_two {t : Tm} (h : formedT t = true) (k : t.kind = 6) : twoB t 6 = true := by
  rw [formedT_eq] at h
  simp only [Bool.and_eq_true, decide_eq_true_eq] at h
  have h1 := h.1.1
  simp only [k, kidsR] at h1
  simp [twoB, k]
  simp at h1
  omega

set_option maxRecDepth 4000 in
set_option maxHeartbeats 8000000 in
theorem rclean_all (b : Bl) (base : Int) (args : List Ar) (hb : b.size ≤ 1048576) (hl : args.length ≤ 1048576) : ∀ n, n ≤ 1048576 → ∀ (t : Tm) (m : Nat), t.size ≤ n → formedT t = true → m + t.depth ≤ 2097152 →
    FC Tryz.prog 119 [aQ (plQ b base args m), aT t] (.bool (cleanF b base args n m t)) := by
  intro n
  induction n with
  | zero => intro hn t m ht; have := t.size_pos; omega
  | succ n ih =>
  intro hn t m ht hfm hm
  have ih := ih (by omega)
  have hs := t.size_eq
  have hdp := t.depth_eq
  have hlen := len_le_sizes t.kids
  have hnum := formedT_numle hfm
  have hvl := varsOf_length args m
  by_cases k1 : t.kind = 1
  · have hc : cleanF b base args (n + 1) m t = !(guardI args m t).2 := by rw [cleanF, if_pos k1]
    have hgu : FC Tryz.prog 164 [aQ (plQ b base args m), .int .i64 t.num] (.int .i64 (guardQ (varsOf args m) t.num)) := guardedQ_spec (plQ b base args m) t.num (by show (varsOf args m).length ≤ _; omega) hnum
    have hgn := guardQ_neg (args := args) (m := m) k1 hnum.1
    rw [hc]
    refine FC_intro hty Tryz.func119 rfl rfl rfl fun w0 => ?_
    repeat' (first | exact absurd k1 ‹_› | refine WL_call 0 rfl hgu rfl rfl rfl ?_ | refine WL_p hty rfl rfl ?_ | refine WL_nil ?_ | refine AC_seq ?_ | refine AC_region ?_ | refine AC_block ?_ | refine AC_skip ?_ | refine AC_condT rfl ?_ | refine AC_condF rfl ?_ | refine AC_exit ?_ | refine AC_ret ?_ | refine WL_ung rfl rfl ?_ | refine WL_offT rfl rfl rfl ?_ | refine WL_offF rfl rfl rfl ?_ | refine WL_offU rfl rfl rfl ?_ | refine WL_m rfl (m_idxN hty rfl rfl rfl (by assumption) rfl) ?_ | refine ends_bool rfl ?_ | refine WL_cmp rfl rfl rfl rfl (fun _ => ?_) (fun _ => ?_) | refine AC_cond rfl (fun _ => ?_) (fun _ => ?_))
    · rw [hgn.1 (by assumption)]; rfl
    · cases hq : (guardI args m t).2 with
      | true => rfl
      | false => exact absurd (hgn.2 hq) (by assumption)
  by_cases k3 : t.kind = 3
  · have hc : cleanF b base args (n + 1) m t = decide ((ofB b base t.num).1 = 0) := by rw [cleanF, if_neg k1, if_pos k3]
    have hof := rof_spec b base t.num hb
    rw [hc]
    refine FC_intro hty Tryz.func119 rfl rfl rfl fun w0 => ?_
    repeat' (first | exact absurd (by assumption) k1 | exact absurd k3 ‹_› | refine WL_call 0 rfl hof rfl rfl rfl ?_ | refine WL_p hty rfl rfl ?_ | refine WL_nil ?_ | refine AC_seq ?_ | refine AC_region ?_ | refine AC_block ?_ | refine AC_skip ?_ | refine AC_condT rfl ?_ | refine AC_condF rfl ?_ | refine AC_exit ?_ | refine AC_ret ?_ | refine WL_ung rfl rfl ?_ | refine WL_offT rfl rfl rfl ?_ | refine WL_offF rfl rfl rfl ?_ | refine WL_offU rfl rfl rfl ?_ | refine WL_m rfl (m_idxN hty rfl rfl rfl (by assumption) rfl) ?_ | refine ends_bool rfl ?_ | refine WL_cmp rfl rfl rfl rfl (fun _ => ?_) (fun _ => ?_) | refine AC_cond rfl (fun _ => ?_) (fun _ => ?_))
    all_goals simp [*]
  have hun := unspineL_spec t (by omega)
  have hsz := split_sizes t
  obtain ⟨hi1, hi2⟩ := split_inv (Sub t.depth) Sub.kid (t := t) ⟨hfm, Nat.le_refl _⟩
  have hhp := (splitT t).1.size_pos
  have hnum1 := formedT_numle hi1.1
  by_cases hdec : (splitT t).1.kind = 3 ∧ 0 < (splitT t).2.length ∧ (ofB b base (splitT t).1.num).1 = 4 ∧ (splitT t).2.length = idxN b (ofB b base (splitT t).1.num).2 + 1
  · obtain ⟨d1, d2, d3, d4⟩ := hdec
    have k6 : twoB t 6 = true := by
      cases h6 : twoB t 6 with
      | true => rfl
      | false => rw [split_end h6] at d2; exact absurd d2 (Nat.lt_irrefl 0)
    rw [clean_decodes ht k6 d1 d3 d4]
    have hde := rdecoding_spec b base args m (splitT t).2 (cleanF b base args n m) t.depth hl (by omega) (fun q => by rw [q] at d2; exact Nat.lt_irrefl 0 d2) (by omega) hi2 (fun a h1 h2 h3 => ih a m (by omega) h2 (by omega))
    obtain ⟨q1, q2, _⟩ := ofB_kind (b := b) (base := base) (n := (splitT t).1.num)
    have hof := rof_spec b base (splitT t).1.num hb
    obtain ⟨s, hss, hsm⟩ := get_of_lt (q2 d3)
    have rs := rsS_get hss
    have hix : idxN b (ofB b base (splitT t).1.num).2 = s.idx.length := by unfold idxN; rw [hss]
    rw [hix] at d4
    have hsb := size_le_sizesS hsm
    have hsl : s.idx.length ≤ 1048576 := by
      have h1 := len_le_sizesA s.idx
      have h2 : s.size = sizesA s.idx + s.decT.size := rfl
      have h3 : b.size = sizesS b.sorts + sizesC b.cons := rfl
      omega
    have e1 : ((rsT (splitT t).2).length : Int) = IntKind.i64.wrap (((rsA s.idx).length : Int) + 1) := by rw [rsT_length, rsA_length]; rw [wrap_ok (n := (s.idx.length : Int) + 1) (by omega) (by omega)]; omega
    have e0 : ((rsT (splitT t).2).length : Int) > 0 := by rw [rsT_length]; omega
    generalize decR (cleanF b base args n m) args m (splitT t).2 = rr at hde ⊢
    refine FC_intro hty Tryz.func119 rfl rfl rfl fun w0 => ?_
    repeat' (first | exact absurd (by assumption) k1 | exact absurd (by assumption) k3 | exact absurd d1 ‹_› | exact absurd d3 ‹_› | exact absurd e1 ‹_› | exact absurd e0 ‹_› | refine WL_call 0 rfl hun rfl rfl rfl ?_ | refine WL_call 0 rfl hof rfl rfl rfl ?_ | refine WL_call 0 rfl hde rfl rfl rfl ?_ | refine WL_m rfl (m_idxL hty rfl rfl rfl q1 rs rfl) ?_ | refine WL_p hty rfl rfl ?_ | refine WL_nil ?_ | refine AC_seq ?_ | refine AC_region ?_ | refine AC_block ?_ | refine AC_skip ?_ | refine AC_condT rfl ?_ | refine AC_condF rfl ?_ | refine AC_exit ?_ | refine AC_ret ?_ | refine WL_ung rfl rfl ?_ | refine WL_offT rfl rfl rfl ?_ | refine WL_offF rfl rfl rfl ?_ | refine WL_offU rfl rfl rfl ?_ | refine WL_m rfl (m_idxN hty rfl rfl rfl (by assumption) rfl) ?_ | refine ends_bool rfl ?_ | refine WL_cmp rfl rfl rfl rfl (fun _ => ?_) (fun _ => ?_) | refine AC_cond rfl (fun _ => ?_) (fun _ => ?_))
    rfl
  have hcc : cleanF b base args (n + 1) m t = kidsAll (cleanF b base args n) m t.kind 0 t.kids := by
    rw [cleanF, if_neg k1, if_neg k3, if_neg]
    rintro ⟨k6, hg⟩
    refine hdec ?_
    have k6' := formed_two hfm k6
    obtain ⟨f, a, hk⟩ := two_kids k6'
    have hpos : 0 < (splitT t).2.length := by rw [split_app k6' hk]; simp
    unfold decodesG at hg
    simp only [Bool.and_eq_true, decide_eq_true_eq] at hg
    exact ⟨hg.1, hpos, hg.2.1, hg.2.2.1⟩
  rw [hcc]
  have hin : ∀ j : Nat, FC Tryz.prog 163 [aQ (plQ b base args m), .int .i64 (bindsR t.kind (j : Nat))] (aQ (plQ b base args (m + (bindsR t.kind (j : Nat)).toNat))) := fun j => by
    have hbi : 0 ≤ bindsR t.kind (j : Nat) ∧ bindsR t.kind (j : Nat) ≤ 1 := by unfold bindsR; split <;> omega
    have := rmore_spec b base args m (bindsR t.kind (j : Nat)).toNat hl (by omega)
    rwa [show (((bindsR t.kind (j : Nat)).toNat : Nat) : Int) = bindsR t.kind (j : Nat) by omega] at this
  have hkc : ∀ (j : Nat) (k : Tm), k ∈ t.kids → FC Tryz.prog 119 [aQ (plQ b base args (m + (bindsR t.kind (j : Nat)).toNat)), aT k] (.bool (cleanF b base args n (m + bindsR t.kind (j : Nat)) k)) := fun j k hk => by
    have hbi : 0 ≤ bindsR t.kind (j : Nat) ∧ bindsR t.kind (j : Nat) ≤ 1 := by unfold bindsR; split <;> omega
    have hks := size_le_sizes hk
    have hkd := depth_le_depths hk
    have := ih k (m + (bindsR t.kind (j : Nat)).toNat) (by omega) (formedT_kids hfm hk) (by omega)
    rwa [show ((m + (bindsR t.kind (j : Nat)).toNat : Nat) : Int) = m + bindsR t.kind (j : Nat) by omega] at this
  have hof := rof_spec b base (splitT t).1.num hb
  obtain ⟨q1, q2, _⟩ := ofB_kind (b := b) (base := base) (n := (splitT t).1.num)
  by_cases d3 : (ofB b base (splitT t).1.num).1 = 4
  · obtain ⟨s, hss, hsm⟩ := get_of_lt (q2 d3)
    have rs := rsS_get hss
    have hix : idxN b (ofB b base (splitT t).1.num).2 = s.idx.length := by unfold idxN; rw [hss]
    rw [hix] at hdec
    have hsb := size_le_sizesS hsm
    have hsl : s.idx.length ≤ 1048576 := by
      have h1 := len_le_sizesA s.idx
      have h2 : s.size = sizesA s.idx + s.decT.size := rfl
      have h3 : b.size = sizesS b.sorts + sizesC b.cons := rfl
      omega
    have e1 : (splitT t).1.kind = 3 → ((rsT (splitT t).2).length : Int) > 0 → ¬ ((rsT (splitT t).2).length : Int) = IntKind.i64.wrap (((rsA s.idx).length : Int) + 1) := fun p1 p2 p3 => by
      rw [rsT_length, rsA_length, wrap_ok (n := (s.idx.length : Int) + 1) (by omega) (by omega)] at p3
      rw [rsT_length] at p2
      exact hdec ⟨p1, by omega, d3, by omega⟩
    refine FC_intro hty Tryz.func119 rfl rfl rfl fun w0 => ?_
    repeat' (first | exact absurd (by assumption) k1 | exact absurd (by assumption) k3 | exact absurd d3 ‹_› | exact absurd (by assumption) (e1 (by assumption) (by assumption)) | refine WL_call 0 rfl hun rfl rfl rfl ?_ | refine WL_call 0 rfl hof rfl rfl rfl ?_ | refine WL_m rfl (m_idxL hty rfl rfl rfl q1 rs rfl) ?_ | refine WL_p hty rfl rfl ?_ | refine WL_nil ?_ | refine AC_seq ?_ | refine AC_region ?_ | refine AC_block ?_ | refine AC_skip ?_ | refine AC_condT rfl ?_ | refine AC_condF rfl ?_ | refine AC_exit ?_ | refine AC_ret ?_ | refine WL_ung rfl rfl ?_ | refine WL_offT rfl rfl rfl ?_ | refine WL_offF rfl rfl rfl ?_ | refine WL_offU rfl rfl rfl ?_ | refine WL_m rfl (m_idxN hty rfl rfl rfl (by assumption) rfl) ?_ | refine ends_bool rfl ?_ | refine WL_cmp rfl rfl rfl rfl (fun _ => ?_) (fun _ => ?_) | refine AC_cond rfl (fun _ => ?_) (fun _ => ?_))
    all_goals
      refine AC_for t.kids.length (fun j => kidsAll (cleanF b base args n) m t.kind 0 (t.kids.take j) = true) (fun j => ⟨envOf [(2, .ptr 2 0), (3, .ptr 3 0), (11, .int .i64 (j : Nat))], bkOf [(2, .box (cQ (plQ b base args m))), (3, .box (cT t))]⟩)
        (less_sub ⟨⟨_, rfl, .inl ⟨.refl _, rfl⟩⟩, ⟨_, rfl, .inl ⟨.refl _, rfl⟩⟩, ⟨_, rfl, .inl ⟨.refl _, rfl⟩⟩, trivial⟩ ⟨⟨⟨_, rfl, .refl _⟩, rfl⟩, ⟨⟨_, rfl, .refl _⟩, rfl⟩, trivial⟩) rfl ?_
      intro j hj hI
      repeat' (first | refine WL_p hty rfl rfl ?_ | refine WL_nil ?_ | refine AC_seq ?_ | refine AC_region ?_ | refine AC_block ?_ | refine AC_skip ?_ | refine AC_condT rfl ?_ | refine AC_condF rfl ?_ | refine AC_exit ?_ | refine AC_ret ?_ | refine WL_ung rfl rfl ?_ | refine WL_offT rfl rfl rfl ?_ | refine WL_offF rfl rfl rfl ?_ | refine WL_offU rfl rfl rfl ?_ | refine WL_m rfl (m_idxN hty rfl rfl rfl (by assumption) rfl) ?_ | refine ends_bool rfl ?_)
      refine WL_cmp rfl rfl rfl rfl (fun hc => ?_) (fun hc => ?_)
      · have hlt : j < t.kids.length := by rw [rsT_length] at hc; omega
        obtain ⟨k, hk, hmem⟩ := get_of_lt hlt
        have rk := rsT_get hk
        have hin := hin j
        have hkc := hkc j k hmem
        repeat' (first | refine AC_drawnE (id := 15) tbDocC3119_15 rfl (by kernel_rfl) ?_ | refine WE_call 0 rfl (binds_spec _ _) rfl rfl rfl ?_ | refine WE_call 0 rfl hin rfl rfl rfl ?_ | refine WE_callB rfl hkc rfl (fun _ => ?_) (fun _ => ?_) | refine WE_cons (.inl ⟨rfl, stepE_ok hty rfl rfl⟩) ?_ | refine WE_cons (.inl ⟨rfl, m_idxN hty rfl rfl rfl (by assumption) rfl⟩) ?_ | refine WE_nil ⟨by kernel_rfl, ?_⟩ | refine WL_p hty rfl rfl ?_ | refine WL_nil ?_ | refine AC_seq ?_ | refine AC_region ?_ | refine AC_block ?_ | refine AC_skip ?_ | refine AC_condT rfl ?_ | refine AC_condF rfl ?_ | refine AC_exit ?_ | refine AC_ret ?_ | refine WL_ung rfl rfl ?_ | refine WL_offT rfl rfl rfl ?_ | refine WL_offF rfl rfl rfl ?_ | refine WL_offU rfl rfl rfl ?_ | refine WL_m rfl (m_idxN hty rfl rfl rfl (by assumption) rfl) ?_ | refine ends_bool rfl ?_ | refine WL_cmp rfl rfl rfl rfl (fun _ => ?_) (fun _ => ?_) | refine AC_cond rfl (fun _ => ?_) (fun _ => ?_))
        all_goals rename_i hq
        · refine ⟨hlt, by rw [kidsAll_next _ _ _ hk, hI, hq]; rfl, (less_sub ⟨⟨_, rfl, .inl ⟨.refl _, rfl⟩⟩, ⟨_, rfl, .inl ⟨.refl _, rfl⟩⟩, ⟨_, rfl, see_eq ?_ rfl⟩, trivial⟩ ⟨⟨⟨_, rfl, .refl _⟩, rfl⟩, ⟨⟨_, rfl, .refl _⟩, rfl⟩, trivial⟩)⟩
          exact congrArg (AV.int .i64) ((wrap_ok (by omega) (by omega)).trans (by omega))
        · rw [kidsAll_split _ _ _ hk, hq]; simp
      · obtain rfl : j = t.kids.length := by rw [rsT_length] at hc; omega
        rw [List.take_length] at hI
        repeat' (first | refine WL_p hty rfl rfl ?_ | refine WL_nil ?_ | refine AC_seq ?_ | refine AC_region ?_ | refine AC_block ?_ | refine AC_skip ?_ | refine AC_condT rfl ?_ | refine AC_condF rfl ?_ | refine AC_exit ?_ | refine AC_ret ?_ | refine WL_ung rfl rfl ?_ | refine WL_offT rfl rfl rfl ?_ | refine WL_offF rfl rfl rfl ?_ | refine WL_offU rfl rfl rfl ?_ | refine WL_m rfl (m_idxN hty rfl rfl rfl (by assumption) rfl) ?_ | refine ends_bool rfl ?_ | refine WL_cmp rfl rfl rfl rfl (fun _ => ?_) (fun _ => ?_) | refine AC_cond rfl (fun _ => ?_) (fun _ => ?_))
        exact hI.symm
  · refine FC_intro hty Tryz.func119 rfl rfl rfl fun w0 => ?_
    repeat' (first | exact absurd (by assumption) k1 | exact absurd (by assumption) k3 | exact absurd (by assumption) d3 | refine WL_call 0 rfl hun rfl rfl rfl ?_ | refine WL_call 0 rfl hof rfl rfl rfl ?_ | refine WL_p hty rfl rfl ?_ | refine WL_nil ?_ | refine AC_seq ?_ | refine AC_region ?_ | refine AC_block ?_ | refine AC_skip ?_ | refine AC_condT rfl ?_ | refine AC_condF rfl ?_ | refine AC_exit ?_ | refine AC_ret ?_ | refine WL_ung rfl rfl ?_ | refine WL_offT rfl rfl rfl ?_ | refine WL_offF rfl rfl rfl ?_ | refine WL_offU rfl rfl rfl ?_ | refine WL_m rfl (m_idxN hty rfl rfl rfl (by assumption) rfl) ?_ | refine ends_bool rfl ?_ | refine WL_cmp rfl rfl rfl rfl (fun _ => ?_) (fun _ => ?_) | refine AC_cond rfl (fun _ => ?_) (fun _ => ?_))
    all_goals
      refine AC_for t.kids.length (fun j => kidsAll (cleanF b base args n) m t.kind 0 (t.kids.take j) = true) (fun j => ⟨envOf [(2, .ptr 2 0), (3, .ptr 3 0), (11, .int .i64 (j : Nat))], bkOf [(2, .box (cQ (plQ b base args m))), (3, .box (cT t))]⟩)
        (less_sub ⟨⟨_, rfl, .inl ⟨.refl _, rfl⟩⟩, ⟨_, rfl, .inl ⟨.refl _, rfl⟩⟩, ⟨_, rfl, .inl ⟨.refl _, rfl⟩⟩, trivial⟩ ⟨⟨⟨_, rfl, .refl _⟩, rfl⟩, ⟨⟨_, rfl, .refl _⟩, rfl⟩, trivial⟩) rfl ?_
      intro j hj hI
      repeat' (first | refine WL_p hty rfl rfl ?_ | refine WL_nil ?_ | refine AC_seq ?_ | refine AC_region ?_ | refine AC_block ?_ | refine AC_skip ?_ | refine AC_condT rfl ?_ | refine AC_condF rfl ?_ | refine AC_exit ?_ | refine AC_ret ?_ | refine WL_ung rfl rfl ?_ | refine WL_offT rfl rfl rfl ?_ | refine WL_offF rfl rfl rfl ?_ | refine WL_offU rfl rfl rfl ?_ | refine WL_m rfl (m_idxN hty rfl rfl rfl (by assumption) rfl) ?_ | refine ends_bool rfl ?_)
      refine WL_cmp rfl rfl rfl rfl (fun hc => ?_) (fun hc => ?_)
      · have hlt : j < t.kids.length := by rw [rsT_length] at hc; omega
        obtain ⟨k, hk, hmem⟩ := get_of_lt hlt
        have rk := rsT_get hk
        have hin := hin j
        have hkc := hkc j k hmem
        repeat' (first | refine AC_drawnE (id := 15) tbDocC3119_15 rfl (by kernel_rfl) ?_ | refine WE_call 0 rfl (binds_spec _ _) rfl rfl rfl ?_ | refine WE_call 0 rfl hin rfl rfl rfl ?_ | refine WE_callB rfl hkc rfl (fun _ => ?_) (fun _ => ?_) | refine WE_cons (.inl ⟨rfl, stepE_ok hty rfl rfl⟩) ?_ | refine WE_cons (.inl ⟨rfl, m_idxN hty rfl rfl rfl (by assumption) rfl⟩) ?_ | refine WE_nil ⟨by kernel_rfl, ?_⟩ | refine WL_p hty rfl rfl ?_ | refine WL_nil ?_ | refine AC_seq ?_ | refine AC_region ?_ | refine AC_block ?_ | refine AC_skip ?_ | refine AC_condT rfl ?_ | refine AC_condF rfl ?_ | refine AC_exit ?_ | refine AC_ret ?_ | refine WL_ung rfl rfl ?_ | refine WL_offT rfl rfl rfl ?_ | refine WL_offF rfl rfl rfl ?_ | refine WL_offU rfl rfl rfl ?_ | refine WL_m rfl (m_idxN hty rfl rfl rfl (by assumption) rfl) ?_ | refine ends_bool rfl ?_ | refine WL_cmp rfl rfl rfl rfl (fun _ => ?_) (fun _ => ?_) | refine AC_cond rfl (fun _ => ?_) (fun _ => ?_))
        all_goals rename_i hq
        · refine ⟨hlt, by rw [kidsAll_next _ _ _ hk, hI, hq]; rfl, (less_sub ⟨⟨_, rfl, .inl ⟨.refl _, rfl⟩⟩, ⟨_, rfl, .inl ⟨.refl _, rfl⟩⟩, ⟨_, rfl, see_eq ?_ rfl⟩, trivial⟩ ⟨⟨⟨_, rfl, .refl _⟩, rfl⟩, ⟨⟨_, rfl, .refl _⟩, rfl⟩, trivial⟩)⟩
          exact congrArg (AV.int .i64) ((wrap_ok (by omega) (by omega)).trans (by omega))
        · rw [kidsAll_split _ _ _ hk, hq]; simp
      · obtain rfl : j = t.kids.length := by rw [rsT_length] at hc; omega
        rw [List.take_length] at hI
        repeat' (first | refine WL_p hty rfl rfl ?_ | refine WL_nil ?_ | refine AC_seq ?_ | refine AC_region ?_ | refine AC_block ?_ | refine AC_skip ?_ | refine AC_condT rfl ?_ | refine AC_condF rfl ?_ | refine AC_exit ?_ | refine AC_ret ?_ | refine WL_ung rfl rfl ?_ | refine WL_offT rfl rfl rfl ?_ | refine WL_offF rfl rfl rfl ?_ | refine WL_offU rfl rfl rfl ?_ | refine WL_m rfl (m_idxN hty rfl rfl rfl (by assumption) rfl) ?_ | refine ends_bool rfl ?_ | refine WL_cmp rfl rfl rfl rfl (fun _ => ?_) (fun _ => ?_) | refine AC_cond rfl (fun _ => ?_) (fun _ => ?_))
        exact hI.symm

end Go.Proofs.YtlonpgdnmngnmaaGreat

/-
  The document's answer: good terms, indices.
-/
namespace Go.Proofs.YtlonpgdnmngnmaaGreat
set_option linter.unusedSimpArgs false
set_option linter.unusedVariables false
open Go.Aw Go.RowKit
def tbDocG168_9 : List (Nat × List Nat) := [(0, []), (1, []), (2, []), (3, [1, 2]), (4, [1, 2, 3]), (5, [0, 1, 2, 3, 4]), (6, [0, 1, 2, 3, 4, 5])]
def tbDocG168_21 : List (Nat × List Nat) := [(0, []), (1, [0]), (2, [0, 1]), (3, [0, 1, 2]), (4, [0, 1, 2, 3]), (5, [0, 1, 2, 3]), (6, [0, 1, 2, 3]), (7, [0, 1, 2, 3, 5, 6]), (8, [0, 1, 2, 3, 5, 6, 7]), (9, [0, 1, 2, 3, 4, 5, 6, 7, 8]), (10, [0, 1, 2, 3, 4, 5, 6, 7, 8, 9]), (11, [0, 1, 2, 3, 4, 5, 6, 7, 8, 9, 10]), (12, [0, 1, 2, 3, 4, 5, 6, 7, 8, 9, 10, 11]), (13, [0, 1, 2, 3, 4, 5, 6, 7, 8, 9, 10, 11, 12]), (14, [0, 1, 2, 3, 4, 5, 6, 7, 8, 9, 10, 11, 12, 13]), (15, [0, 1, 2, 3, 4, 5, 6, 7, 8, 9, 10, 11, 12, 13, 14]), (16, [0, 1, 2, 3, 4, 5, 6, 7, 8, 9, 10, 11, 12, 13, 14, 15]), (17, [0, 1, 2, 3, 4, 5, 6, 7, 8, 9, 10, 11, 12, 13, 14, 15, 16]), (18, [0, 1, 2, 3, 4, 5, 6, 7, 8, 9, 10, 11, 12, 13, 14, 15, 16, 17]), (19, [0, 1, 2, 3, 4, 5, 6, 7, 8, 9, 10, 11, 12, 13, 14, 15, 16, 17, 18]), (20, [0, 1, 2, 3, 4, 5, 6, 7, 8, 9, 10, 11, 12, 13, 14, 15, 16, 17, 18, 19]), (21, [0, 1, 2, 3, 4, 5, 6, 7, 8, 9, 10, 11, 12, 13, 14, 15, 16, 17, 18, 19, 20]), (22, [0, 1, 2, 3, 4, 5, 6, 7, 8, 9, 10, 11, 12, 13, 14, 15, 16, 17, 18, 19, 20, 21]), (23, [0, 1, 2, 3, 4, 5, 6, 7, 8, 9, 10, 11, 12, 13, 14, 15, 16, 17, 18, 19, 20, 21]), (24, [0, 1, 2, 3, 4, 5, 6, 7, 8, 9, 10, 11, 12, 13, 14, 15, 16, 17, 18, 19, 20, 21]), (25, [0, 1, 2, 3, 4, 5, 6, 7, 8, 9, 10, 11, 12, 13, 14, 15, 16, 17, 18, 19, 20, 21, 23, 24]), (26, [0, 1, 2, 3, 4, 5, 6, 7, 8, 9, 10, 11, 12, 13, 14, 15, 16, 17, 18, 19, 20, 21, 23, 24, 25]), (27, [0, 1, 2, 3, 4, 5, 6, 7, 8, 9, 10, 11, 12, 13, 14, 15, 16, 17, 18, 19, 20, 21]), (28, [0, 1, 2, 3, 4, 5, 6, 7, 8, 9, 10, 11, 12, 13, 14, 15, 16, 17, 18, 19, 20, 21, 22, 23, 24, 25, 26, 27]), (29, [0, 1, 2, 3, 4, 5, 6, 7, 8, 9, 10, 11, 12, 13, 14, 15, 16, 17, 18, 19, 20, 21, 22, 23, 24, 25, 26, 27, 28]), (30, [0, 1, 2, 3, 4, 5, 6, 7, 8, 9, 10, 11, 12, 13, 14, 15, 16, 17, 18, 19, 20, 21, 22, 23, 24, 25, 26, 27, 28, 29]), (31, [0, 1, 2, 3, 4, 5, 6, 7, 8, 9, 10, 11, 12, 13, 14, 15, 16, 17, 18, 19, 20, 21, 22, 23, 24, 25, 26, 27, 28, 29, 30]), (32, [0, 1, 2, 3, 4, 5, 6, 7, 8, 9, 10, 11, 12, 13, 14, 15, 16, 17, 18, 19, 20, 21, 22, 23, 24, 25, 26, 27, 28, 29, 30, 31]), (33, [0, 1, 2, 3, 4, 5, 6, 7, 8, 9, 10, 11, 12, 13, 14, 15, 16, 17, 18, 19, 20, 21, 22, 23, 24, 25, 26, 27, 28, 29, 30, 31, 32]), (34, [0, 1, 2, 3, 4, 5, 6, 7, 8, 9, 10, 11, 12, 13, 14, 15, 16, 17, 18, 19, 20, 21, 22, 23, 24, 25, 26, 27, 28, 29, 30, 31, 32, 33]), (35, [0, 1, 2, 3, 4, 5, 6, 7, 8, 9, 10, 11, 12, 13, 14, 15, 16, 17, 18, 19, 20, 21, 22, 23, 24, 25, 26, 27, 28, 29, 30, 31, 32, 33, 34]), (36, [0, 1, 2, 3, 4, 5, 6, 7, 8, 9, 10, 11, 12, 13, 14, 15, 16, 17, 18, 19, 20, 21, 22, 23, 24, 25, 26, 27, 28, 29, 30, 31, 32, 33, 34, 35]), (37, [0, 1, 2, 3, 4, 5, 6, 7, 8, 9, 10, 11, 12, 13, 14, 15, 16, 17, 18, 19, 20, 21, 22, 23, 24, 25, 26, 27, 28, 29, 30, 31, 32, 33, 34, 35, 36]), (38, [0, 1, 2, 3, 4, 5, 6, 7, 8, 9, 10, 11, 12, 13, 14, 15, 16, 17, 18, 19, 20, 21, 22, 23, 24, 25, 26, 27, 28, 29, 30, 31, 32, 33, 34, 35, 36, 37]), (39, [0, 1, 2, 3, 4, 5, 6, 7, 8, 9, 10, 11, 12, 13, 14, 15, 16, 17, 18, 19, 20, 21, 22, 23, 24, 25, 26, 27, 28, 29, 30, 31, 32, 33, 34, 35, 36, 37, 38]), (40, [0, 1, 2, 3, 4, 5, 6, 7, 8, 9, 10, 11, 12, 13, 14, 15, 16, 17, 18, 19, 20, 21, 22, 23, 24, 25, 26, 27, 28, 29, 30, 31, 32, 33, 34, 35, 36, 37, 38, 39]), (41, [0, 1, 2, 3, 4, 5, 6, 7, 8, 9, 10, 11, 12, 13, 14, 15, 16, 17, 18, 19, 20, 21, 22, 23, 24, 25, 26, 27, 28, 29, 30, 31, 32, 33, 34, 35, 36, 37, 38, 39, 40]), (42, [0, 1, 2, 3, 4, 5, 6, 7, 8, 9, 10, 11, 12, 13, 14, 15, 16, 17, 18, 19, 20, 21, 22, 23, 24, 25, 26, 27, 28, 29, 30, 31, 32, 33, 34, 35, 36, 37, 38, 39, 40, 41]), (43, [0, 1, 2, 3, 4, 5, 6, 7, 8, 9, 10, 11, 12, 13, 14, 15, 16, 17, 18, 19, 20, 21, 22, 23, 24, 25, 26, 27, 28, 29, 30, 31, 32, 33, 34, 35, 36, 37, 38, 39, 40, 41]), (44, [0, 1, 2, 3, 4, 5, 6, 7, 8, 9, 10, 11, 12, 13, 14, 15, 16, 17, 18, 19, 20, 21, 22, 23, 24, 25, 26, 27, 28, 29, 30, 31, 32, 33, 34, 35, 36, 37, 38, 39, 40, 41, 42, 43]), (45, [0, 1, 2, 3, 4, 5, 6, 7, 8, 9, 10, 11, 12, 13, 14, 15, 16, 17, 18, 19, 20, 21, 22, 23, 24, 25, 26, 27, 28, 29, 30, 31, 32, 33, 34, 35, 36, 37, 38, 39, 40, 41, 42, 43, 44]), (46, [0, 1, 2, 3, 4, 5, 6, 7, 8, 9, 10, 11, 12, 13, 14, 15, 16, 17, 18, 19, 20, 21, 22, 23, 24, 25, 26, 27, 28, 29, 30, 31, 32, 33, 34, 35, 36, 37, 38, 39, 40, 41, 42, 43, 44, 45]), (47, [0, 1, 2, 3, 4, 5, 6, 7, 8, 9, 10, 11, 12, 13, 14, 15, 16, 17, 18, 19, 20, 21, 22, 23, 24, 25, 26, 27, 28, 29, 30, 31, 32, 33, 34, 35, 36, 37, 38, 39, 40, 41, 42, 43, 44, 45, 46]), (48, [0, 1, 2, 3, 4, 5, 6, 7, 8, 9, 10, 11, 12, 13, 14, 15, 16, 17, 18, 19, 20, 21, 22, 23, 24, 25, 26, 27, 28, 29, 30, 31, 32, 33, 34, 35, 36, 37, 38, 39, 40, 41, 42, 43, 44, 45, 46, 47]), (49, [0, 1, 2, 3, 4, 5, 6, 7, 8, 9, 10, 11, 12, 13, 14, 15, 16, 17, 18, 19, 20, 21, 22, 23, 24, 25, 26, 27, 28, 29, 30, 31, 32, 33, 34, 35, 36, 37, 38, 39, 40, 41, 42, 43, 44, 45, 46, 47, 48]), (50, [0, 1, 2, 3, 4, 5, 6, 7, 8, 9, 10, 11, 12, 13, 14, 15, 16, 17, 18, 19, 20, 21, 22, 23, 24, 25, 26, 27, 28, 29, 30, 31, 32, 33, 34, 35, 36, 37, 38, 39, 40, 41, 42, 43, 44, 45, 46, 47, 48]), (51, [0, 1, 2, 3, 4, 5, 6, 7, 8, 9, 10, 11, 12, 13, 14, 15, 16, 17, 18, 19, 20, 21, 22, 23, 24, 25, 26, 27, 28, 29, 30, 31, 32, 33, 34, 35, 36, 37, 38, 39, 40, 41, 42, 43, 44, 45, 46, 47, 48]), (52, [0, 1, 2, 3, 4, 5, 6, 7, 8, 9, 10, 11, 12, 13, 14, 15, 16, 17, 18, 19, 20, 21, 22, 23, 24, 25, 26, 27, 28, 29, 30, 31, 32, 33, 34, 35, 36, 37, 38, 39, 40, 41, 42, 43, 44, 45, 46, 47, 48, 50, 51]), (53, [0, 1, 2, 3, 4, 5, 6, 7, 8, 9, 10, 11, 12, 13, 14, 15, 16, 17, 18, 19, 20, 21, 22, 23, 24, 25, 26, 27, 28, 29, 30, 31, 32, 33, 34, 35, 36, 37, 38, 39, 40, 41, 42, 43, 44, 45, 46, 47, 48, 50, 51, 52]), (54, [0, 1, 2, 3, 4, 5, 6, 7, 8, 9, 10, 11, 12, 13, 14, 15, 16, 17, 18, 19, 20, 21, 22, 23, 24, 25, 26, 27, 28, 29, 30, 31, 32, 33, 34, 35, 36, 37, 38, 39, 40, 41, 42, 43, 44, 45, 46, 47, 48, 50, 51, 52, 53]), (55, [0, 1, 2, 3, 4, 5, 6, 7, 8, 9, 10, 11, 12, 13, 14, 15, 16, 17, 18, 19, 20, 21, 22, 23, 24, 25, 26, 27, 28, 29, 30, 31, 32, 33, 34, 35, 36, 37, 38, 39, 40, 41, 42, 43, 44, 45, 46, 47, 48, 49, 50, 51, 52, 53, 54]), (56, [0, 1, 2, 3, 4, 5, 6, 7, 8, 9, 10, 11, 12, 13, 14, 15, 16, 17, 18, 19, 20, 21, 22, 23, 24, 25, 26, 27, 28, 29, 30, 31, 32, 33, 34, 35, 36, 37, 38, 39, 40, 41, 42, 43, 44, 45, 46, 47, 48, 49, 50, 51, 52, 53, 54, 55]), (57, [0, 1, 2, 3, 4, 5, 6, 7, 8, 9, 10, 11, 12, 13, 14, 15, 16, 17, 18, 19, 20, 21, 22, 23, 24, 25, 26, 27, 28, 29, 30, 31, 32, 33, 34, 35, 36, 37, 38, 39, 40, 41, 42, 43, 44, 45, 46, 47, 48, 49, 50, 51, 52, 53, 54, 55, 56]), (58, [0, 1, 2, 3, 4, 5, 6, 7, 8, 9, 10, 11, 12, 13, 14, 15, 16, 17, 18, 19, 20, 21, 22, 23, 24, 25, 26, 27, 28, 29, 30, 31, 32, 33, 34, 35, 36, 37, 38, 39, 40, 41, 42, 43, 44, 45, 46, 47, 48, 49, 50, 51, 52, 53, 54, 55, 56, 57]), (59, [0, 1, 2, 3, 4, 5, 6, 7, 8, 9, 10, 11, 12, 13, 14, 15, 16, 17, 18, 19, 20, 21, 22, 23, 24, 25, 26, 27, 28, 29, 30, 31, 32, 33, 34, 35, 36, 37, 38, 39, 40, 41, 42, 43, 44, 45, 46, 47, 48, 49, 50, 51, 52, 53, 54, 55, 56, 57, 58]), (60, [0, 1, 2, 3, 4, 5, 6, 7, 8, 9, 10, 11, 12, 13, 14, 15, 16, 17, 18, 19, 20, 21, 22, 23, 24, 25, 26, 27, 28, 29, 30, 31, 32, 33, 34, 35, 36, 37, 38, 39, 40, 41, 42, 43, 44, 45, 46, 47, 48, 49, 50, 51, 52, 53, 54, 55, 56, 57, 58, 59])]
attribute [local irreducible] WL AC WD WE MStep OkOp

theorem rclean_spec (b : Bl) (base : Int) (args : List Ar) (m : Nat) (t : Tm) (hb : b.size ≤ 1048576) (hl : args.length ≤ 1048576) (hs : t.size ≤ 1048576) (hfm : formedT t = true) (hm : m + t.depth ≤ 2097152) :
    FC Tryz.prog 119 [aQ (plQ b base args m), aT t] (.bool (cleanT b base args m t)) := rclean_all b base args hb hl 1048576 (Nat.le_refl _) t m hs hfm hm
attribute [local irreducible] cleanT

set_option maxRecDepth 4000 in
set_option maxHeartbeats 16000000 in
theorem rgood_all (b : Bl) (base : Int) (args : List Ar) (m : Nat) (c : Int) (hb : b.size ≤ 1048576) (hl : args.length ≤ 1048576) : ∀ n, n ≤ 1048576 → ∀ (t : Tm), t.size ≤ n → formedT t = true → m + t.depth ≤ 2097152 →
    FC Tryz.prog 168 [aQ (plQ b base args m), aT t, .int .i64 c] (.bool (goodF b base args m c n t)) := by
  intro n
  induction n with
  | zero => intro hn t ht; have := t.size_pos; omega
  | succ n ih =>
  intro hn t ht hfm hm
  have ih := ih (by omega)
  have hun := unspineL_spec t (by omega)
  have hsz := split_sizes t
  obtain ⟨hi1, hi2⟩ := split_inv (Sub t.depth) Sub.kid (t := t) ⟨hfm, Nat.le_refl _⟩
  have hhp := (splitT t).1.size_pos
  obtain ⟨f, hf⟩ : ∃ f, f = (splitT t).1 := ⟨_, rfl⟩
  obtain ⟨l, hll⟩ : ∃ l, l = (splitT t).2 := ⟨_, rfl⟩
  have hd : goodF b base args m c (n + 1) t = if (guardI args m f).2 = true then decide (l.length = domN args (guardI args m f).1) && l.all (cleanT b base args m)
    else decide (f.kind = 3) && (decide ((ofB b base f.num).1 = 5) && (decide ((ofB b base f.num).2 < c) && (decide (l.length = (conArgs b (ofB b base f.num).2).length) &&
      allZ (goodG (cleanT b base args m) (goodF b base args m c n) (fun x => (guardI args m x).2)) (conArgs b (ofB b base f.num).2) l))) := by rw [hf, hll]; rfl
  rw [hd]
  rw [← hf, ← hll] at hun
  rw [← hf, ← hll] at hsz
  rw [← hf] at hi1 hhp
  rw [← hll] at hi2
  clear hd hf hll
  have hnum := formedT_numle hi1.1
  have hll := len_le_sizes l
  have hvl := varsOf_length args m
  by_cases k1 : f.kind = 1
  · have hg : FC Tryz.prog 164 [aQ (plQ b base args m), .int .i64 f.num] (.int .i64 (guardQ (varsOf args m) f.num)) := guardedQ_spec (plQ b base args m) f.num (by show (varsOf args m).length ≤ _; omega) hnum
    rw [guardQ_is k1 hnum.1] at hg
    have hgt := guardI_true (args := args) (m := (m : Int)) (t := f)
    obtain ⟨⟨gi, gb⟩, hG⟩ : ∃ G, G = guardI args m f := ⟨_, rfl⟩
    rw [← hG] at hg hgt ⊢
    simp only at hg hgt ⊢
    cases gb
    · rw [if_neg (by decide), show decide (f.kind = 3) = false from decide_eq_false (by omega), Bool.false_and]
      rw [if_neg (by decide)] at hg
      refine FC_intro hty Tryz.func168 rfl rfl rfl fun w0 => ?_
      repeat' (first | exact absurd k1 ‹_› | exact absurd (show (-1 : Int) < 0 by decide) ‹_› | refine WL_call 0 rfl hun rfl rfl rfl ?_ | refine WL_call 0 rfl hg rfl rfl rfl ?_ | refine WL_p hty rfl rfl ?_ | refine WL_nil ?_ | refine AC_seq ?_ | refine AC_region ?_ | refine AC_block ?_ | refine AC_skip ?_ | refine AC_condT rfl ?_ | refine AC_condF rfl ?_ | refine AC_exit ?_ | refine AC_ret ?_ | refine WL_ung rfl rfl ?_ | refine WL_offT rfl rfl rfl ?_ | refine WL_offF rfl rfl rfl ?_ | refine WL_offU rfl rfl rfl ?_ | refine WL_m rfl (m_idxN hty rfl rfl rfl (by assumption) rfl) ?_ | refine ends_bool rfl ?_ | refine WL_cmp rfl rfl rfl rfl (fun _ => ?_) (fun _ => ?_) | refine AC_cond rfl (fun _ => ?_) (fun _ => ?_))
      all_goals rfl
    · rw [if_pos rfl]
      rw [if_pos rfl] at hg
      obtain ⟨g0, a, ha⟩ := hgt rfl
      have ra := rsA_get ha
      have hdn : domN args gi = a.dom.length := by unfold domN; rw [ha]
      rw [hdn, all_not_any]
      have ng : ¬ gi < 0 := by omega
      refine FC_intro hty Tryz.func168 rfl rfl rfl fun w0 => ?_
      repeat' (first | exact absurd k1 ‹_› | exact absurd (by assumption) ng | refine WL_call 0 rfl hun rfl rfl rfl ?_ | refine WL_call 0 rfl hg rfl rfl rfl ?_ | refine WL_m rfl (m_idxL hty rfl rfl rfl g0 ra rfl) ?_ | refine WL_p hty rfl rfl ?_ | refine WL_nil ?_ | refine AC_seq ?_ | refine AC_region ?_ | refine AC_block ?_ | refine AC_skip ?_ | refine AC_condT rfl ?_ | refine AC_condF rfl ?_ | refine AC_exit ?_ | refine AC_ret ?_ | refine WL_ung rfl rfl ?_ | refine WL_offT rfl rfl rfl ?_ | refine WL_offF rfl rfl rfl ?_ | refine WL_offU rfl rfl rfl ?_ | refine WL_m rfl (m_idxN hty rfl rfl rfl (by assumption) rfl) ?_ | refine ends_bool rfl ?_ | refine WL_cmp rfl rfl rfl rfl (fun _ => ?_) (fun _ => ?_) | refine AC_cond rfl (fun _ => ?_) (fun _ => ?_))
      · rename_i hq
        have hq : ((rsT l).length : Int) ≠ ((rsT a.dom).length : Int) := hq
        rw [rsT_length, rsT_length] at hq
        rw [show decide (l.length = a.dom.length) = false from decide_eq_false (by omega)]; rfl
      · rename_i hq
        have hq : ¬ ((rsT l).length : Int) ≠ ((rsT a.dom).length : Int) := hq
        rw [rsT_length, rsT_length] at hq
        rw [show decide (l.length = a.dom.length) = true from decide_eq_true (by omega), Bool.true_and]
        refine AC_for l.length (fun j => (l.take j).any (fun t => !cleanT b base args m t) = false) (fun j => ⟨envOf [(3, .ptr 3 0), (8, sT l), (10, .int .i64 (j : Nat))], bkOf [(3, .box (cQ (plQ b base args m)))]⟩) (less_sub ⟨⟨_, rfl, .inl ⟨.refl _, rfl⟩⟩, ⟨_, rfl, .inl ⟨.refl _, rfl⟩⟩, ⟨_, rfl, .inl ⟨.refl _, rfl⟩⟩, trivial⟩ ⟨⟨⟨_, rfl, .refl _⟩, rfl⟩, trivial⟩) rfl ?_
        intro j hj hI
        repeat' (first | refine WL_p hty rfl rfl ?_ | refine WL_nil ?_ | refine AC_seq ?_ | refine AC_region ?_ | refine AC_block ?_ | refine AC_skip ?_ | refine AC_condT rfl ?_ | refine AC_condF rfl ?_ | refine AC_exit ?_ | refine AC_ret ?_ | refine WL_ung rfl rfl ?_ | refine WL_offT rfl rfl rfl ?_ | refine WL_offF rfl rfl rfl ?_ | refine WL_offU rfl rfl rfl ?_ | refine WL_m rfl (m_idxN hty rfl rfl rfl (by assumption) rfl) ?_ | refine ends_bool rfl ?_)
        refine WL_cmp rfl rfl rfl rfl (fun hc => ?_) (fun hc => ?_)
        · have hlt : j < l.length := by rw [rsT_length] at hc; omega
          obtain ⟨k, hk, hmem⟩ := get_of_lt hlt
          have rk := rsT_get hk
          have hks := size_le_sizes hmem
          have hkd := (hi2 k hmem).2
          have hck := rclean_spec b base args m k hb hl (by omega) (hi2 k hmem).1 (by omega)
          have hat := any_take_succ (p := fun t => !cleanT b base args m t) hk
          repeat' (first | refine AC_drawnE (id := 9) tbDocG168_9 rfl (by kernel_rfl) ?_ | refine WE_callB rfl hck rfl (fun _ => ?_) (fun _ => ?_) | refine WE_cons (.inl ⟨rfl, stepE_ok hty rfl rfl⟩) ?_ | refine WE_cons (.inl ⟨rfl, m_idxN hty rfl rfl rfl (by assumption) rfl⟩) ?_ | refine WE_ung rfl rfl ?_ | refine WE_offT rfl rfl rfl ?_ | refine WE_offF rfl rfl rfl ?_ | refine WE_offU rfl rfl rfl ?_ | refine WE_nil ⟨by kernel_rfl, ?_⟩ | refine WL_p hty rfl rfl ?_ | refine WL_nil ?_ | refine AC_seq ?_ | refine AC_region ?_ | refine AC_block ?_ | refine AC_skip ?_ | refine AC_condT rfl ?_ | refine AC_condF rfl ?_ | refine AC_exit ?_ | refine AC_ret ?_ | refine WL_ung rfl rfl ?_ | refine WL_offT rfl rfl rfl ?_ | refine WL_offF rfl rfl rfl ?_ | refine WL_offU rfl rfl rfl ?_ | refine WL_m rfl (m_idxN hty rfl rfl rfl (by assumption) rfl) ?_ | refine ends_bool rfl ?_ | refine WL_cmp rfl rfl rfl rfl (fun _ => ?_) (fun _ => ?_) | refine AC_cond rfl (fun _ => ?_) (fun _ => ?_) | refine WE_cmp rfl rfl rfl rfl (fun _ => ?_) (fun _ => ?_))
          · rename_i hg
            refine ⟨hlt, by rw [hat, hI, hg]; rfl, (less_sub ⟨⟨_, rfl, .inl ⟨.refl _, rfl⟩⟩, ⟨_, rfl, .inl ⟨.refl _, rfl⟩⟩, ⟨_, rfl, see_eq ?_ rfl⟩, trivial⟩ ⟨⟨⟨_, rfl, .refl _⟩, rfl⟩, trivial⟩)⟩
            exact congrArg (AV.int .i64) ((wrap_ok (by omega) (by omega)).trans (by omega))
          · rename_i hg
            rw [any_of_get (p := fun t => !cleanT b base args m t) hk (by simp [hg])]; rfl
        · obtain rfl : j = l.length := by rw [rsT_length] at hc; omega
          rw [List.take_length] at hI
          rw [hI]
          repeat' (first | refine WL_p hty rfl rfl ?_ | refine WL_nil ?_ | refine AC_seq ?_ | refine AC_region ?_ | refine AC_block ?_ | refine AC_skip ?_ | refine AC_condT rfl ?_ | refine AC_condF rfl ?_ | refine AC_exit ?_ | refine AC_ret ?_ | refine WL_ung rfl rfl ?_ | refine WL_offT rfl rfl rfl ?_ | refine WL_offF rfl rfl rfl ?_ | refine WL_offU rfl rfl rfl ?_ | refine WL_m rfl (m_idxN hty rfl rfl rfl (by assumption) rfl) ?_ | refine ends_bool rfl ?_ | refine WL_cmp rfl rfl rfl rfl (fun _ => ?_) (fun _ => ?_) | refine AC_cond rfl (fun _ => ?_) (fun _ => ?_))
          rfl
  rw [if_neg (by rw [guardI_kind k1]; decide)]
  by_cases k3 : f.kind = 3
  case neg =>
    refine FC_intro hty Tryz.func168 rfl rfl rfl fun w0 => ?_
    repeat' (first | exact absurd (by assumption) k1 | exact absurd (show f.kind ≠ 3 from k3) ‹_› | refine WL_call 0 rfl hun rfl rfl rfl ?_ | refine WL_p hty rfl rfl ?_ | refine WL_nil ?_ | refine AC_seq ?_ | refine AC_region ?_ | refine AC_block ?_ | refine AC_skip ?_ | refine AC_condT rfl ?_ | refine AC_condF rfl ?_ | refine AC_exit ?_ | refine AC_ret ?_ | refine WL_ung rfl rfl ?_ | refine WL_offT rfl rfl rfl ?_ | refine WL_offF rfl rfl rfl ?_ | refine WL_offU rfl rfl rfl ?_ | refine WL_m rfl (m_idxN hty rfl rfl rfl (by assumption) rfl) ?_ | refine ends_bool rfl ?_ | refine WL_cmp rfl rfl rfl rfl (fun _ => ?_) (fun _ => ?_) | refine AC_cond rfl (fun _ => ?_) (fun _ => ?_))
    rw [decide_eq_false k3]; rfl
  have hof := rof_spec b base f.num hb
  obtain ⟨q1, _, q2⟩ := ofB_kind (b := b) (base := base) (n := f.num)
  obtain ⟨⟨kd, wh⟩, hK⟩ : ∃ K, K = ofB b base f.num := ⟨_, rfl⟩
  rw [← hK] at hof q1 q2 ⊢
  simp only at hof q1 q2 ⊢
  rw [decide_eq_true k3, Bool.true_and]
  by_cases k4 : kd = 5
  case neg =>
    refine FC_intro hty Tryz.func168 rfl rfl rfl fun w0 => ?_
    repeat' (first | exact absurd (by assumption) k1 | exact absurd k3 ‹_› | exact absurd (show kd ≠ 5 from k4) ‹_› | refine WL_call 0 rfl hun rfl rfl rfl ?_ | refine WL_call 0 rfl hof rfl rfl rfl ?_ | refine WL_p hty rfl rfl ?_ | refine WL_nil ?_ | refine AC_seq ?_ | refine AC_region ?_ | refine AC_block ?_ | refine AC_skip ?_ | refine AC_condT rfl ?_ | refine AC_condF rfl ?_ | refine AC_exit ?_ | refine AC_ret ?_ | refine WL_ung rfl rfl ?_ | refine WL_offT rfl rfl rfl ?_ | refine WL_offF rfl rfl rfl ?_ | refine WL_offU rfl rfl rfl ?_ | refine WL_m rfl (m_idxN hty rfl rfl rfl (by assumption) rfl) ?_ | refine ends_bool rfl ?_ | refine WL_cmp rfl rfl rfl rfl (fun _ => ?_) (fun _ => ?_) | refine AC_cond rfl (fun _ => ?_) (fun _ => ?_))
    rw [decide_eq_false k4]; rfl
  rw [decide_eq_true k4, Bool.true_and]
  by_cases k5 : c ≤ wh
  case pos =>
    have k5' : wh ≥ c := k5
    refine FC_intro hty Tryz.func168 rfl rfl rfl fun w0 => ?_
    repeat' (first | exact absurd (by assumption) k1 | exact absurd k3 ‹_› | exact absurd k4 ‹_› | exact absurd k5' ‹_› | refine WL_call 0 rfl hun rfl rfl rfl ?_ | refine WL_call 0 rfl hof rfl rfl rfl ?_ | refine WL_p hty rfl rfl ?_ | refine WL_nil ?_ | refine AC_seq ?_ | refine AC_region ?_ | refine AC_block ?_ | refine AC_skip ?_ | refine AC_condT rfl ?_ | refine AC_condF rfl ?_ | refine AC_exit ?_ | refine AC_ret ?_ | refine WL_ung rfl rfl ?_ | refine WL_offT rfl rfl rfl ?_ | refine WL_offF rfl rfl rfl ?_ | refine WL_offU rfl rfl rfl ?_ | refine WL_m rfl (m_idxN hty rfl rfl rfl (by assumption) rfl) ?_ | refine ends_bool rfl ?_ | refine WL_cmp rfl rfl rfl rfl (fun _ => ?_) (fun _ => ?_) | refine AC_cond rfl (fun _ => ?_) (fun _ => ?_))
    rw [decide_eq_false (by omega)]; rfl
  rw [show decide (wh < c) = true from decide_eq_true (by omega), Bool.true_and]
  have k5' : ¬ wh ≥ c := k5
  obtain ⟨co, hco, hcm⟩ := get_of_lt (q2 k4)
  have rco := rsC_get hco
  have hca : conArgs b wh = co.args := by unfold conArgs; rw [hco]
  have hcs := size_le_sizesC hcm
  have hcl : co.args.length ≤ 1048576 := by
    have h1 := len_le_sizesA co.args
    have h2 : co.size = sizesA co.args + sizes co.idx + co.dec.size := rfl
    have h3 : b.size = sizesS b.sorts + sizesC b.cons := rfl
    omega
  rw [hca]
  by_cases k6 : l.length = co.args.length
  case neg =>
    refine FC_intro hty Tryz.func168 rfl rfl rfl fun w0 => ?_
    repeat' (first | exact absurd (by assumption) k1 | exact absurd k3 ‹_› | exact absurd k4 ‹_› | exact absurd (by assumption) k5' | (refine absurd ?_ k6; have hq := Decidable.not_not.1 (show ¬ ((rsT l).length : Int) ≠ ((rsA co.args).length : Int) by assumption); rw [rsA_length, rsT_length] at hq; omega) | refine WL_call 0 rfl hun rfl rfl rfl ?_ | refine WL_call 0 rfl hof rfl rfl rfl ?_ | refine WL_m rfl (m_idxL hty rfl rfl rfl q1 rco rfl) ?_ | refine WL_p hty rfl rfl ?_ | refine WL_nil ?_ | refine AC_seq ?_ | refine AC_region ?_ | refine AC_block ?_ | refine AC_skip ?_ | refine AC_condT rfl ?_ | refine AC_condF rfl ?_ | refine AC_exit ?_ | refine AC_ret ?_ | refine WL_ung rfl rfl ?_ | refine WL_offT rfl rfl rfl ?_ | refine WL_offF rfl rfl rfl ?_ | refine WL_offU rfl rfl rfl ?_ | refine WL_m rfl (m_idxN hty rfl rfl rfl (by assumption) rfl) ?_ | refine ends_bool rfl ?_ | refine WL_cmp rfl rfl rfl rfl (fun _ => ?_) (fun _ => ?_) | refine AC_cond rfl (fun _ => ?_) (fun _ => ?_))
    rw [decide_eq_false k6]; rfl
  rw [decide_eq_true k6, Bool.true_and]
  have n6 : ¬ ((rsT l).length : Int) ≠ ((rsA co.args).length : Int) := by rw [rsA_length, rsT_length]; omega
  refine FC_intro hty Tryz.func168 rfl rfl rfl fun w0 => ?_
  repeat' (first | exact absurd (by assumption) k1 | exact absurd k3 ‹_› | exact absurd k4 ‹_› | exact absurd (by assumption) k5' | exact absurd (by assumption) n6 | refine WL_call 0 rfl hun rfl rfl rfl ?_ | refine WL_call 0 rfl hof rfl rfl rfl ?_ | refine WL_m rfl (m_idxL hty rfl rfl rfl q1 rco rfl) ?_ | refine WL_p hty rfl rfl ?_ | refine WL_nil ?_ | refine AC_seq ?_ | refine AC_region ?_ | refine AC_block ?_ | refine AC_skip ?_ | refine AC_condT rfl ?_ | refine AC_condF rfl ?_ | refine AC_exit ?_ | refine AC_ret ?_ | refine WL_ung rfl rfl ?_ | refine WL_offT rfl rfl rfl ?_ | refine WL_offF rfl rfl rfl ?_ | refine WL_offU rfl rfl rfl ?_ | refine WL_m rfl (m_idxN hty rfl rfl rfl (by assumption) rfl) ?_ | refine ends_bool rfl ?_ | refine WL_cmp rfl rfl rfl rfl (fun _ => ?_) (fun _ => ?_) | refine AC_cond rfl (fun _ => ?_) (fun _ => ?_))
  refine AC_for co.args.length (fun j => ∀ (i : Nat) (a : Ar) (x : Tm), i < j → co.args[i]? = some a → l[i]? = some x → goodG (cleanT b base args m) (goodF b base args m c n) (fun x => (guardI args m x).2) a x = true)
    (fun j => ⟨envOf [(2, .int .i64 c), (3, .ptr 3 0), (8, sT l), (12, .int .i64 wh), (13, .int .i64 (j : Nat))], bkOf [(3, .box (cQ (plQ b base args m)))]⟩)
    (less_sub ⟨⟨_, rfl, .inl ⟨.refl _, rfl⟩⟩, ⟨_, rfl, .inl ⟨.refl _, rfl⟩⟩, ⟨_, rfl, .inl ⟨.refl _, rfl⟩⟩, ⟨_, rfl, .inl ⟨.refl _, rfl⟩⟩, ⟨_, rfl, .inl ⟨.refl _, rfl⟩⟩, trivial⟩ ⟨⟨⟨_, rfl, .refl _⟩, rfl⟩, trivial⟩) (fun i a x hi => absurd hi (Nat.not_lt_zero _)) ?_
  intro j hj hI
  repeat' (first | refine WL_p hty rfl rfl ?_ | refine WL_nil ?_ | refine AC_seq ?_ | refine AC_region ?_ | refine AC_block ?_ | refine AC_skip ?_ | refine AC_condT rfl ?_ | refine AC_condF rfl ?_ | refine AC_exit ?_ | refine AC_ret ?_ | refine WL_ung rfl rfl ?_ | refine WL_offT rfl rfl rfl ?_ | refine WL_offF rfl rfl rfl ?_ | refine WL_offU rfl rfl rfl ?_ | refine WL_m rfl (m_idxN hty rfl rfl rfl (by assumption) rfl) ?_ | refine ends_bool rfl ?_)
  refine WL_cmp rfl rfl rfl rfl (fun hc => ?_) (fun hc => ?_)
  · have hlt : j < co.args.length := by rw [rsT_length] at hc; omega
    obtain ⟨a, ha, _⟩ := get_of_lt hlt
    obtain ⟨x, hx, hxm⟩ := get_of_lt (k6 ▸ hlt)
    have ra := rsA_get ha
    have rx := rsT_get hx
    have hxs := size_le_sizes hxm
    have hxi := hi2 x hxm
    have hxd := hxi.2
    have hxn := formedT_numle hxi.1
    have hg2 : FC Tryz.prog 164 [aQ (plQ b base args m), .int .i64 x.num] (.int .i64 (guardQ (varsOf args m) x.num)) := guardedQ_spec (plQ b base args m) x.num (by show (varsOf args m).length ≤ _; omega) hxn
    have hgn : x.kind = 1 → (guardQ (varsOf args m) x.num < 0 ↔ (guardI args m x).2 = false) := fun q => guardQ_neg q hxn.1
    have hgk : x.kind ≠ 1 → (guardI args m x).2 = false := guardI_kind
    have hcl2 := rclean_spec b base args m x hb hl (by omega) hxi.1 (by omega)
    have hgd2 := ih x (by omega) hxi.1 (by omega)
    have hgg : goodG (cleanT b base args m) (goodF b base args m c n) (fun x => (guardI args m x).2) a x = if a.rc = true then (if a.dom.length = 0 then goodF b base args m c n x else (guardI args m x).2) else cleanT b base args m x := rfl
    generalize guardQ (varsOf args m) x.num = gq at hg2 hgn
    generalize hgb : (guardI args m x).2 = gb at hgn hgk hgg
    have hfin : (AV.int .i64 (IntKind.i64.wrap ((j : Nat) + 1))) = .int .i64 ((j + 1 : Nat) : Int) := congrArg (AV.int .i64) ((wrap_ok (by omega) (by omega)).trans (by omega))
    obtain ⟨rc, tt, dd, so, ix⟩ := a
    cases rc
    · rw [if_neg (show ¬ false = true by decide)] at hgg
      repeat' (first | (refine AC_regK (id := 21) ?_; refine AC_less (less_sub (l := [(2, _), (3, _), (8, _), (12, _), (13, _), (14, _)]) (bl := [(3, _), (14, _)]) ⟨⟨_, rfl, .inl ⟨.refl _, rfl⟩⟩, ⟨_, rfl, .inl ⟨.refl _, rfl⟩⟩, ⟨_, rfl, .inl ⟨.refl _, rfl⟩⟩, ⟨_, rfl, .inl ⟨.refl _, rfl⟩⟩, ⟨_, rfl, .inl ⟨.refl _, rfl⟩⟩, ⟨_, rfl, .inl ⟨.refl _, rfl⟩⟩, trivial⟩ ⟨⟨⟨_, rfl, .refl _⟩, rfl⟩, ⟨⟨_, rfl, .refl _⟩, rfl⟩, trivial⟩) ?_; refine AC_drawnE (id := 21) tbDocG168_21 rfl (by kernel_rfl) ?_) | refine WL_m rfl (m_idxL hty rfl rfl rfl q1 rco rfl) ?_ | refine WE_m rfl (m_idxN (i := j) hty rfl rfl rfl rx rfl) ?_ | refine WE_callB rfl hcl2 rfl (fun _ => ?_) (fun _ => ?_) | refine WE_cons (.inl ⟨rfl, stepE_ok hty rfl rfl⟩) ?_ | refine WE_cons (.inl ⟨rfl, m_idxN hty rfl rfl rfl (by assumption) rfl⟩) ?_ | refine WE_ung rfl rfl ?_ | refine WE_offT rfl rfl rfl ?_ | refine WE_offF rfl rfl rfl ?_ | refine WE_offU rfl rfl rfl ?_ | refine WE_nil ⟨by kernel_rfl, ?_⟩ | refine WL_p hty rfl rfl ?_ | refine WL_nil ?_ | refine AC_seq ?_ | refine AC_region ?_ | refine AC_block ?_ | refine AC_skip ?_ | refine AC_condT rfl ?_ | refine AC_condF rfl ?_ | refine AC_exit ?_ | refine AC_ret ?_ | refine WL_ung rfl rfl ?_ | refine WL_offT rfl rfl rfl ?_ | refine WL_offF rfl rfl rfl ?_ | refine WL_offU rfl rfl rfl ?_ | refine WL_m rfl (m_idxN hty rfl rfl rfl (by assumption) rfl) ?_ | refine ends_bool rfl ?_ | refine WL_cmp rfl rfl rfl rfl (fun _ => ?_) (fun _ => ?_) | refine AC_cond rfl (fun _ => ?_) (fun _ => ?_) | refine WE_cmp rfl rfl rfl rfl (fun _ => ?_) (fun _ => ?_))
      all_goals first
        | exact (allZ_not ha hx (hgg.trans ‹_›)).symm
        | (refine ⟨hlt, allZ_step hI ha hx (hgg.trans ‹_›), (less_sub ⟨⟨_, rfl, .inl ⟨.refl _, rfl⟩⟩, ⟨_, rfl, .inl ⟨.refl _, rfl⟩⟩, ⟨_, rfl, .inl ⟨.refl _, rfl⟩⟩, ⟨_, rfl, .inl ⟨.refl _, rfl⟩⟩, ⟨_, rfl, see_eq ?_ rfl⟩, trivial⟩ ⟨⟨⟨_, rfl, .refl _⟩, rfl⟩, trivial⟩)⟩; exact hfin)
    · rw [if_pos rfl] at hgg
      by_cases h0 : dd.length = 0
      · rw [if_pos h0] at hgg
        have m1 : ((rsT dd).length : Int) = 0 := by rw [rsT_length]; omega
        have m2 : ¬ ((rsT dd).length : Int) > 0 := by rw [rsT_length]; omega
        repeat' (first | exact absurd m1 ‹_› | exact absurd (by assumption) m2 | (refine AC_regK (id := 21) ?_; refine AC_less (less_sub (l := [(2, _), (3, _), (8, _), (12, _), (13, _), (14, _)]) (bl := [(3, _), (14, _)]) ⟨⟨_, rfl, .inl ⟨.refl _, rfl⟩⟩, ⟨_, rfl, .inl ⟨.refl _, rfl⟩⟩, ⟨_, rfl, .inl ⟨.refl _, rfl⟩⟩, ⟨_, rfl, .inl ⟨.refl _, rfl⟩⟩, ⟨_, rfl, .inl ⟨.refl _, rfl⟩⟩, ⟨_, rfl, .inl ⟨.refl _, rfl⟩⟩, trivial⟩ ⟨⟨⟨_, rfl, .refl _⟩, rfl⟩, ⟨⟨_, rfl, .refl _⟩, rfl⟩, trivial⟩) ?_; refine AC_drawnE (id := 21) tbDocG168_21 rfl (by kernel_rfl) ?_) | refine WL_m rfl (m_idxL hty rfl rfl rfl q1 rco rfl) ?_ | refine WE_m rfl (m_idxN (i := j) hty rfl rfl rfl rx rfl) ?_ | refine WE_callB rfl hgd2 rfl (fun _ => ?_) (fun _ => ?_) | refine WE_cons (.inl ⟨rfl, stepE_ok hty rfl rfl⟩) ?_ | refine WE_cons (.inl ⟨rfl, m_idxN hty rfl rfl rfl (by assumption) rfl⟩) ?_ | refine WE_ung rfl rfl ?_ | refine WE_offT rfl rfl rfl ?_ | refine WE_offF rfl rfl rfl ?_ | refine WE_offU rfl rfl rfl ?_ | refine WE_nil ⟨by kernel_rfl, ?_⟩ | refine WL_p hty rfl rfl ?_ | refine WL_nil ?_ | refine AC_seq ?_ | refine AC_region ?_ | refine AC_block ?_ | refine AC_skip ?_ | refine AC_condT rfl ?_ | refine AC_condF rfl ?_ | refine AC_exit ?_ | refine AC_ret ?_ | refine WL_ung rfl rfl ?_ | refine WL_offT rfl rfl rfl ?_ | refine WL_offF rfl rfl rfl ?_ | refine WL_offU rfl rfl rfl ?_ | refine WL_m rfl (m_idxN hty rfl rfl rfl (by assumption) rfl) ?_ | refine ends_bool rfl ?_ | refine WL_cmp rfl rfl rfl rfl (fun _ => ?_) (fun _ => ?_) | refine AC_cond rfl (fun _ => ?_) (fun _ => ?_) | refine WE_cmp rfl rfl rfl rfl (fun _ => ?_) (fun _ => ?_))
        all_goals first
          | exact (allZ_not ha hx (hgg.trans ‹_›)).symm
          | (refine ⟨hlt, allZ_step hI ha hx (hgg.trans ‹_›), (less_sub ⟨⟨_, rfl, .inl ⟨.refl _, rfl⟩⟩, ⟨_, rfl, .inl ⟨.refl _, rfl⟩⟩, ⟨_, rfl, .inl ⟨.refl _, rfl⟩⟩, ⟨_, rfl, .inl ⟨.refl _, rfl⟩⟩, ⟨_, rfl, see_eq ?_ rfl⟩, trivial⟩ ⟨⟨⟨_, rfl, .refl _⟩, rfl⟩, trivial⟩)⟩; exact hfin)
      · rw [if_neg h0] at hgg
        have m1 : ¬ ((rsT dd).length : Int) = 0 := by rw [rsT_length]; omega
        have m2 : ((rsT dd).length : Int) > 0 := by rw [rsT_length]; omega
        repeat' (first | exact absurd (by assumption) m1 | exact absurd m2 ‹_› | (refine AC_regK (id := 21) ?_; refine AC_less (less_sub (l := [(2, _), (3, _), (8, _), (12, _), (13, _), (14, _)]) (bl := [(3, _), (14, _)]) ⟨⟨_, rfl, .inl ⟨.refl _, rfl⟩⟩, ⟨_, rfl, .inl ⟨.refl _, rfl⟩⟩, ⟨_, rfl, .inl ⟨.refl _, rfl⟩⟩, ⟨_, rfl, .inl ⟨.refl _, rfl⟩⟩, ⟨_, rfl, .inl ⟨.refl _, rfl⟩⟩, ⟨_, rfl, .inl ⟨.refl _, rfl⟩⟩, trivial⟩ ⟨⟨⟨_, rfl, .refl _⟩, rfl⟩, ⟨⟨_, rfl, .refl _⟩, rfl⟩, trivial⟩) ?_; refine AC_drawnE (id := 21) tbDocG168_21 rfl (by kernel_rfl) ?_) | refine WL_m rfl (m_idxL hty rfl rfl rfl q1 rco rfl) ?_ | refine WE_m rfl (m_idxN (i := j) hty rfl rfl rfl rx rfl) ?_ | refine WE_call 0 rfl hg2 rfl rfl rfl ?_ | refine WE_cons (.inl ⟨rfl, stepE_ok hty rfl rfl⟩) ?_ | refine WE_cons (.inl ⟨rfl, m_idxN hty rfl rfl rfl (by assumption) rfl⟩) ?_ | refine WE_ung rfl rfl ?_ | refine WE_offT rfl rfl rfl ?_ | refine WE_offF rfl rfl rfl ?_ | refine WE_offU rfl rfl rfl ?_ | refine WE_nil ⟨by kernel_rfl, ?_⟩ | refine WL_p hty rfl rfl ?_ | refine WL_nil ?_ | refine AC_seq ?_ | refine AC_region ?_ | refine AC_block ?_ | refine AC_skip ?_ | refine AC_condT rfl ?_ | refine AC_condF rfl ?_ | refine AC_exit ?_ | refine AC_ret ?_ | refine WL_ung rfl rfl ?_ | refine WL_offT rfl rfl rfl ?_ | refine WL_offF rfl rfl rfl ?_ | refine WL_offU rfl rfl rfl ?_ | refine WL_m rfl (m_idxN hty rfl rfl rfl (by assumption) rfl) ?_ | refine ends_bool rfl ?_ | refine WL_cmp rfl rfl rfl rfl (fun _ => ?_) (fun _ => ?_) | refine AC_cond rfl (fun _ => ?_) (fun _ => ?_) | refine WE_cmp rfl rfl rfl rfl (fun _ => ?_) (fun _ => ?_))
        · have hgt : gb = true := by
            cases gb
            · exact absurd ((hgn (by assumption)).2 rfl) (by omega)
            · rfl
          refine ⟨hlt, allZ_step hI ha hx (hgg.trans hgt), (less_sub ⟨⟨_, rfl, .inl ⟨.refl _, rfl⟩⟩, ⟨_, rfl, .inl ⟨.refl _, rfl⟩⟩, ⟨_, rfl, .inl ⟨.refl _, rfl⟩⟩, ⟨_, rfl, .inl ⟨.refl _, rfl⟩⟩, ⟨_, rfl, see_eq ?_ rfl⟩, trivial⟩ ⟨⟨⟨_, rfl, .refl _⟩, rfl⟩, trivial⟩)⟩; exact hfin
        · have hgt : gb = false := (hgn (by assumption)).1 (by omega)
          exact (allZ_not ha hx (hgg.trans hgt)).symm
        · have hgt : gb = false := hgk (by assumption)
          exact (allZ_not ha hx (hgg.trans hgt)).symm
  · obtain rfl : j = co.args.length := by rw [rsT_length] at hc; omega
    repeat' (first | refine WL_p hty rfl rfl ?_ | refine WL_nil ?_ | refine AC_seq ?_ | refine AC_region ?_ | refine AC_block ?_ | refine AC_skip ?_ | refine AC_condT rfl ?_ | refine AC_condF rfl ?_ | refine AC_exit ?_ | refine AC_ret ?_ | refine WL_ung rfl rfl ?_ | refine WL_offT rfl rfl rfl ?_ | refine WL_offF rfl rfl rfl ?_ | refine WL_offU rfl rfl rfl ?_ | refine WL_m rfl (m_idxN hty rfl rfl rfl (by assumption) rfl) ?_ | refine ends_bool rfl ?_ | refine WL_cmp rfl rfl rfl rfl (fun _ => ?_) (fun _ => ?_) | refine AC_cond rfl (fun _ => ?_) (fun _ => ?_))
    exact (allZ_all fun i a x h1 h2 => hI i a x (List.getElem?_eq_some_iff.1 h1).1 h1 h2).symm

end Go.Proofs.YtlonpgdnmngnmaaGreat

/-
  The document's answer: indices, telescopes, whether a block is positive.
-/
namespace Go.Proofs.YtlonpgdnmngnmaaGreat
set_option linter.unusedSimpArgs false
set_option linter.unusedVariables false
open Go.Aw Go.RowKit
def tbDocI120_4 : List (Nat × List Nat) := [(0, []), (1, [0]), (2, [0, 1]), (3, []), (4, [0, 1, 2, 3]), (5, [0, 1, 2, 3, 4]), (6, [0, 1, 2, 3, 4, 5]), (7, []), (8, [0, 1, 2, 3, 4, 5, 6, 7]), (9, [0, 1, 2, 3, 4, 5, 6, 7, 8]), (10, [0, 1, 2, 3, 4, 5, 6, 7, 8, 9]), (11, [0, 1, 2, 3, 4, 5, 6, 7, 8, 9, 10]), (12, [0, 1, 2, 3, 4, 5, 6, 7, 8, 9, 10, 11]), (13, [0, 1, 2, 3, 4, 5, 6, 7, 8, 9, 10, 11]), (14, [0, 1, 2, 3, 4, 5, 6, 7, 8, 9, 10, 11]), (15, [0, 1, 2, 3, 4, 5, 6, 7, 8, 9, 10, 11, 13, 14]), (16, [0, 1, 2, 3, 4, 5, 6, 7, 8, 9, 10, 11, 13, 14, 15]), (17, [0, 1, 2, 3, 4, 5, 6, 7, 8, 9, 10, 11]), (18, [0, 1, 2, 3, 4, 5, 6, 7, 8, 9, 10, 11, 12, 13, 14, 15, 16, 17]), (19, [0, 1, 2, 3, 4, 5, 6, 7, 8, 9, 10, 11, 12, 13, 14, 15, 16, 17, 18]), (20, [0, 1, 2, 3, 4, 5, 6, 7, 8, 9, 10, 11, 12, 13, 14, 15, 16, 17, 18, 19]), (21, [0, 1, 2, 3, 4, 5, 6, 7, 8, 9, 10, 11, 12, 13, 14, 15, 16, 17, 18, 19, 20]), (22, [0, 1, 2, 3, 4, 5, 6, 7, 8, 9, 10, 11, 12, 13, 14, 15, 16, 17, 18, 19, 20, 21]), (23, [0, 1, 2, 3, 4, 5, 6, 7, 8, 9, 10, 11, 12, 13, 14, 15, 16, 17, 18, 19, 20, 21, 22]), (24, [0, 1, 2, 3, 4, 5, 6, 7, 8, 9, 10, 11, 12, 13, 14, 15, 16, 17, 18, 19, 20, 21, 22, 23]), (25, [0, 1, 2, 3, 4, 5, 6, 7, 8, 9, 10, 11, 12, 13, 14, 15, 16, 17, 18, 19, 20, 21]), (26, [0, 1, 2, 3, 4, 5, 6, 7, 8, 9, 10, 11, 12, 13, 14, 15, 16, 17, 18, 19, 20, 21, 22, 23, 24, 25]), (27, [0, 1, 2, 3, 4, 5, 6, 7, 8, 9, 10, 11, 12, 13, 14, 15, 16, 17, 18, 19, 20, 21, 22, 23, 24, 25, 26]), (28, [0, 1, 2, 3, 4, 5, 6, 7, 8, 9, 10, 11, 12, 13, 14, 15, 16, 17, 18, 19, 20, 21, 22, 23, 24, 25, 26, 27]), (29, [0, 1, 2, 3, 4, 5, 6, 7, 8, 9, 10, 11, 12, 13, 14, 15, 16, 17, 18, 19, 20, 21]), (30, [0, 1, 2, 3, 4, 5, 6, 7, 8, 9, 10, 11, 12, 13, 14, 15, 16, 17, 18, 19, 20, 21, 22, 23, 24, 25, 26, 27, 28, 29]), (31, [0, 1, 2, 3, 4, 5, 6, 7, 8, 9, 10, 11, 12, 13, 14, 15, 16, 17, 18, 19, 20, 21, 22, 23, 24, 25, 26, 27, 28, 29, 30]), (32, [0, 1, 2, 3, 4, 5, 6, 7, 8, 9, 10, 11, 12, 13, 14, 15, 16, 17, 18, 19, 20, 21, 22, 23, 24, 25, 26, 27, 28, 29, 30, 31]), (33, [0, 1, 2, 3, 4, 5, 6, 7, 8, 9, 10, 11, 12, 13, 14, 15, 16, 17, 18, 19, 20, 21, 22, 23, 24, 25, 26, 27, 28, 29, 30, 31, 32]), (34, [0, 1, 2, 3, 4, 5, 6, 7, 8, 9, 10, 11, 12, 13, 14, 15, 16, 17, 18, 19, 20, 21, 22, 23, 24, 25, 26, 27, 28, 29, 30, 31, 32, 33]), (35, [0, 1, 2, 3, 4, 5, 6, 7, 8, 9, 10, 11, 12, 13, 14, 15, 16, 17, 18, 19, 20, 21, 22, 23, 24, 25, 26, 27, 28, 29, 30, 31, 32, 33, 34]), (36, [0, 1, 2, 3, 4, 5, 6, 7, 8, 9, 10, 11, 12, 13, 14, 15, 16, 17, 18, 19, 20, 21, 22, 23, 24, 25, 26, 27, 28, 29, 30, 31, 32, 33, 34]), (37, [0, 1, 2, 3, 4, 5, 6, 7, 8, 9, 10, 11, 12, 13, 14, 15, 16, 17, 18, 19, 20, 21, 22, 23, 24, 25, 26, 27, 28, 29, 30, 31, 32, 33, 34]), (38, [0, 1, 2, 3, 4, 5, 6, 7, 8, 9, 10, 11, 12, 13, 14, 15, 16, 17, 18, 19, 20, 21, 22, 23, 24, 25, 26, 27, 28, 29, 30, 31, 32, 33, 34, 36, 37]), (39, [0, 1, 2, 3, 4, 5, 6, 7, 8, 9, 10, 11, 12, 13, 14, 15, 16, 17, 18, 19, 20, 21, 22, 23, 24, 25, 26, 27, 28, 29, 30, 31, 32, 33, 34, 36, 37, 38]), (40, [0, 1, 2, 3, 4, 5, 6, 7, 8, 9, 10, 11, 12, 13, 14, 15, 16, 17, 18, 19, 20, 21, 22, 23, 24, 25, 26, 27, 28, 29, 30, 31, 32, 33, 34, 35, 36, 37, 38, 39]), (41, [0, 1, 2, 3, 4, 5, 6, 7, 8, 9, 10, 11, 12, 13, 14, 15, 16, 17, 18, 19, 20, 21, 22, 23, 24, 25, 26, 27, 28, 29, 30, 31, 32, 33, 34, 35, 36, 37, 38, 39, 40]), (42, [0, 1, 2, 3, 4, 5, 6, 7, 8, 9, 10, 11, 12, 13, 14, 15, 16, 17, 18, 19, 20, 21, 22, 23, 24, 25, 26, 27, 28, 29, 30, 31, 32, 33, 34, 35, 36, 37, 38, 39, 40, 41]), (43, [0, 1, 2, 3, 4, 5, 6, 7, 8, 9, 10, 11, 12, 13, 14, 15, 16, 17, 18, 19, 20, 21, 22, 23, 24, 25, 26, 27, 28, 29, 30, 31, 32, 33, 34, 35, 36, 37, 38, 39, 40, 41, 42])]
def tbDocI117_4 : List (Nat × List Nat) := [(0, []), (1, []), (2, []), (3, []), (4, [2, 3]), (5, [0, 1, 2, 3, 4]), (6, []), (7, [0, 1, 2, 3, 4, 5, 6])]
def tbDocI117_6 : List (Nat × List Nat) := [(0, []), (1, []), (2, []), (3, [1, 2]), (4, [1, 2, 3]), (5, [1, 2, 3, 4]), (6, [0, 1, 2, 3, 4, 5]), (7, [0, 1, 2, 3, 4, 5, 6])]
def tbDocI117_11 : List (Nat × List Nat) := [(0, []), (1, []), (2, [0, 1]), (3, []), (4, []), (5, [3, 4]), (6, [3, 4, 5]), (7, [3, 4, 5, 6]), (8, []), (9, [3, 4, 5, 6, 7, 8]), (10, [3, 4, 5, 6, 7, 8, 9]), (11, [0, 1, 2, 3, 4, 5, 6, 7, 8, 9, 10]), (12, [0, 1, 2, 3, 4, 5, 6, 7, 8, 9, 10, 11])]
def tbDocI117_13 : List (Nat × List Nat) := [(0, []), (1, []), (2, []), (3, [1, 2]), (4, [1, 2, 3]), (5, [1, 2, 3, 4]), (6, [1, 2, 3, 4, 5]), (7, [0, 1, 2, 3, 4, 5, 6]), (8, []), (9, []), (10, [8, 9]), (11, [8, 9, 10]), (12, [8, 9, 10, 11]), (13, []), (14, []), (15, [13, 14]), (16, [13, 14, 15]), (17, [13, 14, 15, 16]), (18, []), (19, [0, 1, 2, 3, 4, 5, 6, 7, 8, 9, 10, 11, 12, 13, 14, 15, 16, 17, 18]), (20, [0, 1, 2, 3, 4, 5, 6, 7, 8, 9, 10, 11, 12, 13, 14, 15, 16, 17, 18, 19])]
attribute [local irreducible] WL AC WD WE MStep OkOp

theorem rgood_spec (b : Bl) (base : Int) (args : List Ar) (m : Nat) (c : Int) (t : Tm) (hb : b.size ≤ 1048576) (hl : args.length ≤ 1048576) (hs : t.size ≤ 1048576) (hfm : formedT t = true) (hm : m + t.depth ≤ 2097152) :
    FC Tryz.prog 168 [aQ (plQ b base args m), aT t, .int .i64 c] (.bool (goodT b base args m c t)) := rgood_all b base args m c hb hl 1048576 (Nat.le_refl _) t hs hfm hm
attribute [local irreducible] cleanT goodT

set_option maxRecDepth 4000 in
set_option maxHeartbeats 8000000 in
theorem rindices_spec (b : Bl) (base : Int) (args : List Ar) (m : Nat) (c sort : Int) (l : List Tm) (hb : b.size ≤ 1048576) (hl : args.length ≤ 1048576) (hm : m ≤ 1048576) (hso : 0 ≤ sort ∧ sort.toNat < b.sorts.length) (hlen : l.length = idxN b sort)
    (ho : ∀ x, x ∈ l → x.size ≤ 6000 ∧ x.depth ≤ 200 ∧ formedT x = true) : FC Tryz.prog 120 [aQ (plQ b base args m), .int .i64 sort, sT l, .int .i64 c] (.bool (idxP b base args m c sort l)) := by
  obtain ⟨s, hs, hsm⟩ := get_of_lt hso.2
  have rs := rsS_get hs
  have hio : idxsOf b sort = s.idx := by unfold idxsOf; rw [hs]
  have hin : idxN b sort = s.idx.length := by unfold idxN; rw [hs]
  rw [hin] at hlen
  have hso1 := hso.1
  have hsl : s.idx.length ≤ 1048576 := by
    have h0 := size_le_sizesS hsm
    have h1 := len_le_sizesA s.idx
    have h2 : s.size = sizesA s.idx + s.decT.size := rfl
    have h3 : b.size = sizesS b.sorts + sizesC b.cons := rfl
    omega
  unfold idxP
  rw [hio]
  refine FC_intro hty Tryz.func120 rfl rfl rfl fun w0 => ?_
  repeat' (first | refine WL_p hty rfl rfl ?_ | refine WL_nil ?_ | refine AC_seq ?_ | refine AC_region ?_ | refine AC_block ?_ | refine AC_skip ?_ | refine AC_condT rfl ?_ | refine AC_condF rfl ?_ | refine AC_exit ?_ | refine AC_ret ?_ | refine ends_bool rfl ?_ | refine WL_cmp rfl rfl rfl rfl (fun _ => ?_) (fun _ => ?_) | refine AC_cond rfl (fun _ => ?_) (fun _ => ?_))
  refine AC_for s.idx.length (fun j => ∀ (i : Nat) (a : Ar) (x : Tm), i < j → s.idx[i]? = some a → l[i]? = some x → (fun (a : Ar) x => if a.rc = true then goodT b base args m c x else cleanT b base args m x) a x = true)
    (fun j => ⟨envOf [(1, .int .i64 sort), (2, sT l), (3, .int .i64 c), (4, .ptr 4 0), (9, .int .i64 (j : Nat))], bkOf [(4, .box (cQ (plQ b base args m)))]⟩)
    (less_sub ⟨⟨_, rfl, .inl ⟨.refl _, rfl⟩⟩, ⟨_, rfl, .inl ⟨.refl _, rfl⟩⟩, ⟨_, rfl, .inl ⟨.refl _, rfl⟩⟩, ⟨_, rfl, .inl ⟨.refl _, rfl⟩⟩, ⟨_, rfl, .inl ⟨.refl _, rfl⟩⟩, trivial⟩ ⟨⟨⟨_, rfl, .refl _⟩, rfl⟩, trivial⟩) (fun i a x hi => absurd hi (Nat.not_lt_zero _)) ?_
  intro j hj hI
  repeat' (first | refine WL_p hty rfl rfl ?_ | refine WL_nil ?_ | refine AC_seq ?_ | refine AC_region ?_ | refine AC_block ?_ | refine AC_skip ?_ | refine AC_condT rfl ?_ | refine AC_condF rfl ?_ | refine AC_exit ?_ | refine AC_ret ?_ | refine ends_bool rfl ?_)
  refine WL_cmp rfl rfl rfl rfl (fun hc => ?_) (fun hc => ?_)
  · have hlt : j < s.idx.length := by rw [rsT_length] at hc; omega
    obtain ⟨a, ha, _⟩ := get_of_lt hlt
    obtain ⟨x, hx, hxm⟩ := get_of_lt (hlen ▸ hlt)
    have ra := rsA_get ha
    have rx := rsT_get hx
    obtain ⟨o1, o2, o3⟩ := ho x hxm
    have hcl := rclean_spec b base args m x hb hl (by omega) o3 (by omega)
    have hgd := rgood_spec b base args m c x hb hl (by omega) o3 (by omega)
    obtain ⟨rc, tt, dd, so, ix⟩ := a
    cases rc
    · repeat' (first | (refine AC_regK (id := 4) ?_; refine AC_less (less_sub (l := [(1, _), (2, _), (3, _), (4, _), (9, _)]) (bl := [(4, _)]) ⟨⟨_, rfl, .inl ⟨.refl _, rfl⟩⟩, ⟨_, rfl, .inl ⟨.refl _, rfl⟩⟩, ⟨_, rfl, .inl ⟨.refl _, rfl⟩⟩, ⟨_, rfl, .inl ⟨.refl _, rfl⟩⟩, ⟨_, rfl, .inl ⟨.refl _, rfl⟩⟩, trivial⟩ ⟨⟨⟨_, rfl, .refl _⟩, rfl⟩, trivial⟩) ?_; refine AC_drawnE (id := 4) tbDocI120_4 rfl (by kernel_rfl) ?_) | refine WE_m rfl (m_idxL hty rfl rfl rfl hso1 rs rfl) ?_ | refine WE_m rfl (m_idxN (i := j) hty rfl rfl rfl ra rfl) ?_ | refine WE_m rfl (m_idxN (i := j) hty rfl rfl rfl rx rfl) ?_ | refine WE_callB rfl hcl rfl (fun _ => ?_) (fun _ => ?_) | refine WE_cons (.inl ⟨rfl, stepE_ok hty rfl rfl⟩) ?_ | refine WE_cons (.inl ⟨rfl, m_idxN hty rfl rfl rfl (by assumption) rfl⟩) ?_ | refine WE_ung rfl rfl ?_ | refine WE_offT rfl rfl rfl ?_ | refine WE_offF rfl rfl rfl ?_ | refine WE_offU rfl rfl rfl ?_ | refine WE_nil ⟨by kernel_rfl, ?_⟩ | refine WL_p hty rfl rfl ?_ | refine WL_nil ?_ | refine AC_seq ?_ | refine AC_region ?_ | refine AC_block ?_ | refine AC_skip ?_ | refine AC_condT rfl ?_ | refine AC_condF rfl ?_ | refine AC_exit ?_ | refine AC_ret ?_ | refine ends_bool rfl ?_ | refine WL_cmp rfl rfl rfl rfl (fun _ => ?_) (fun _ => ?_) | refine AC_cond rfl (fun _ => ?_) (fun _ => ?_))
      · refine ⟨hlt, allZ_step hI ha hx ‹_›, (less_sub ⟨⟨_, rfl, .inl ⟨.refl _, rfl⟩⟩, ⟨_, rfl, .inl ⟨.refl _, rfl⟩⟩, ⟨_, rfl, .inl ⟨.refl _, rfl⟩⟩, ⟨_, rfl, .inl ⟨.refl _, rfl⟩⟩, ⟨_, rfl, see_eq ?_ rfl⟩, trivial⟩ ⟨⟨⟨_, rfl, .refl _⟩, rfl⟩, trivial⟩)⟩
        exact congrArg (AV.int .i64) ((wrap_ok (by omega) (by omega)).trans (by omega))
      · exact (allZ_not ha hx (by show cleanT b base args m x = false; assumption)).symm
    · repeat' (first | (refine AC_regK (id := 4) ?_; refine AC_less (less_sub (l := [(1, _), (2, _), (3, _), (4, _), (9, _)]) (bl := [(4, _)]) ⟨⟨_, rfl, .inl ⟨.refl _, rfl⟩⟩, ⟨_, rfl, .inl ⟨.refl _, rfl⟩⟩, ⟨_, rfl, .inl ⟨.refl _, rfl⟩⟩, ⟨_, rfl, .inl ⟨.refl _, rfl⟩⟩, ⟨_, rfl, .inl ⟨.refl _, rfl⟩⟩, trivial⟩ ⟨⟨⟨_, rfl, .refl _⟩, rfl⟩, trivial⟩) ?_; refine AC_drawnE (id := 4) tbDocI120_4 rfl (by kernel_rfl) ?_) | refine WE_m rfl (m_idxL hty rfl rfl rfl hso1 rs rfl) ?_ | refine WE_m rfl (m_idxN (i := j) hty rfl rfl rfl ra rfl) ?_ | refine WE_m rfl (m_idxN (i := j) hty rfl rfl rfl rx rfl) ?_ | refine WE_callB rfl hgd rfl (fun _ => ?_) (fun _ => ?_) | refine WE_cons (.inl ⟨rfl, stepE_ok hty rfl rfl⟩) ?_ | refine WE_cons (.inl ⟨rfl, m_idxN hty rfl rfl rfl (by assumption) rfl⟩) ?_ | refine WE_ung rfl rfl ?_ | refine WE_offT rfl rfl rfl ?_ | refine WE_offF rfl rfl rfl ?_ | refine WE_offU rfl rfl rfl ?_ | refine WE_nil ⟨by kernel_rfl, ?_⟩ | refine WL_p hty rfl rfl ?_ | refine WL_nil ?_ | refine AC_seq ?_ | refine AC_region ?_ | refine AC_block ?_ | refine AC_skip ?_ | refine AC_condT rfl ?_ | refine AC_condF rfl ?_ | refine AC_exit ?_ | refine AC_ret ?_ | refine ends_bool rfl ?_ | refine WL_cmp rfl rfl rfl rfl (fun _ => ?_) (fun _ => ?_) | refine AC_cond rfl (fun _ => ?_) (fun _ => ?_))
      · refine ⟨hlt, allZ_step hI ha hx ‹_›, (less_sub ⟨⟨_, rfl, .inl ⟨.refl _, rfl⟩⟩, ⟨_, rfl, .inl ⟨.refl _, rfl⟩⟩, ⟨_, rfl, .inl ⟨.refl _, rfl⟩⟩, ⟨_, rfl, .inl ⟨.refl _, rfl⟩⟩, ⟨_, rfl, see_eq ?_ rfl⟩, trivial⟩ ⟨⟨⟨_, rfl, .refl _⟩, rfl⟩, trivial⟩)⟩
        exact congrArg (AV.int .i64) ((wrap_ok (by omega) (by omega)).trans (by omega))
      · exact (allZ_not ha hx (by show goodT b base args m c x = false; assumption)).symm
  · obtain rfl : j = s.idx.length := by rw [rsT_length] at hc; omega
    repeat' (first | refine WL_p hty rfl rfl ?_ | refine WL_nil ?_ | refine AC_seq ?_ | refine AC_region ?_ | refine AC_block ?_ | refine AC_skip ?_ | refine AC_condT rfl ?_ | refine AC_condF rfl ?_ | refine AC_exit ?_ | refine AC_ret ?_ | refine ends_bool rfl ?_ | refine WL_cmp rfl rfl rfl rfl (fun _ => ?_) (fun _ => ?_) | refine AC_cond rfl (fun _ => ?_) (fun _ => ?_))
    exact (allZ_all fun i a x h1 h2 => hI i a x (List.getElem?_eq_some_iff.1 h1).1 h1 h2).symm

set_option maxRecDepth 4000 in
set_option maxHeartbeats 8000000 in
theorem rtele_spec (b : Bl) (base c : Int) (l : List Ar) (hb : b.size ≤ 1048576) (hl : sizesA l ≤ 1048576) (hseq : argSeq b 0 l = true) : FC Tryz.prog 117 [aB b, .int .i64 base, sA l, .int .i64 c] (.bool (rowP b base c l)) := by
  have hlen := len_le_sizesA l
  refine FC_intro hty Tryz.func117 rfl rfl rfl fun w0 => ?_
  repeat' (first | refine WL_p hty rfl rfl ?_ | refine WL_nil ?_ | refine AC_seq ?_ | refine AC_region ?_ | refine AC_block ?_ | refine AC_skip ?_ | refine AC_condT rfl ?_ | refine AC_condF rfl ?_ | refine AC_exit ?_ | refine AC_ret ?_ | refine WL_m rfl (m_idxN hty rfl rfl rfl (by assumption) rfl) ?_ | refine ends_bool rfl ?_ | refine WL_cmp rfl rfl rfl rfl (fun _ => ?_) (fun _ => ?_) | refine AC_cond rfl (fun _ => ?_) (fun _ => ?_))
  refine AC_for l.length (fun j => ∀ (i : Nat) (a : Ar), i < j → l[i]? = some a → argP b base (l.take i) c a = true)
    (fun j => ⟨envOf [(1, .int .i64 base), (2, sA l), (3, .int .i64 c), (4, .ptr 4 0), (9, .int .i64 (j : Nat))], bkOf [(4, .box (cB b))]⟩)
    (less_sub ⟨⟨_, rfl, .inl ⟨.refl _, rfl⟩⟩, ⟨_, rfl, .inl ⟨.refl _, rfl⟩⟩, ⟨_, rfl, .inl ⟨.refl _, rfl⟩⟩, ⟨_, rfl, .inl ⟨.refl _, rfl⟩⟩, ⟨_, rfl, .inl ⟨.refl _, rfl⟩⟩, trivial⟩ ⟨⟨⟨_, rfl, .refl _⟩, rfl⟩, trivial⟩) (fun i a hi => absurd hi (Nat.not_lt_zero _)) ?_
  intro j hj hI
  repeat' (first | refine WL_p hty rfl rfl ?_ | refine WL_nil ?_ | refine AC_seq ?_ | refine AC_region ?_ | refine AC_block ?_ | refine AC_skip ?_ | refine AC_condT rfl ?_ | refine AC_condF rfl ?_ | refine AC_exit ?_ | refine AC_ret ?_ | refine WL_m rfl (m_idxN hty rfl rfl rfl (by assumption) rfl) ?_ | refine ends_bool rfl ?_)
  refine WL_cmp rfl rfl rfl rfl (fun hc => ?_) (fun hc => ?_)
  · have hlt : j < l.length := by rw [rsA_length] at hc; omega
    obtain ⟨a, ha, ham⟩ := get_of_lt hlt
    have ra := rsA_get ha
    have hag := argSeq_get hseq ha
    have has := size_le_sizesA ham
    unfold Ar.size at has
    have hnext : argP b base (l.take j) c a = true → ∀ (i : Nat) (a : Ar), i < j + 1 → l[i]? = some a → argP b base (l.take i) c a = true := fun hp i u hi hu => by
      rcases Nat.lt_or_ge i j with q | q
      · exact hI i u q hu
      · obtain rfl : i = j := by omega
        rw [ha] at hu
        obtain rfl := Option.some.inj hu
        exact hp
    have hbad : argP b base (l.take j) c a = false → rowP b base c l = false := fun hp => Bool.eq_false_iff.2 fun q => by rw [rowP_iff.1 q j a ha] at hp; cases hp
    have htl : (l.take j).length ≤ 1048576 := by rw [List.length_take]; omega
    have hrt : rsA (l.take j) = ((rsA l).take j).drop 0 := by rw [List.drop_zero, rsA_map, rsA_map, List.map_take]
    have hat := rat_spec b base (l.take j) htl
    rw [show sA (l.take j) = .lst 7 (((rsA l).take j).drop 0) false from congrArg (fun r => AV.lst 7 r false) hrt] at hat
    obtain ⟨rc, tt, dd, so, ix⟩ := a
    simp only at has
    cases rc
    · have hpa : argP b base (l.take j) c ⟨false, tt, dd, so, ix⟩ = cleanT b base (l.take j) 0 tt := rfl
      have hop : openT tt (j : Nat) = true := by
        have : argB b ⟨false, tt, dd, so, ix⟩ (j : Nat) = (openT tt (j : Nat) && (decide ((dd.length : Int) + ix.length = 0) && decide (so = 0))) := rfl
        rw [this] at hag
        simp only [Bool.and_eq_true] at hag
        exact hag.1
      obtain ⟨o1, o2, o3⟩ := openT_ok hop
      have hcl := rclean_spec b base (l.take j) 0 tt hb htl (by omega) o3 (by omega)
      repeat' (first | (refine AC_drawnE (id := 4) tbDocI117_4 rfl (by kernel_rfl) ?_) | (refine AC_drawnE (id := 6) tbDocI117_6 rfl (by kernel_rfl) ?_) | refine WE_m rfl (m_sliceL hty 0 j rfl rfl rfl ⟨_, _, rfl, rfl⟩ (Nat.zero_le _) (by rw [rsA_length]; omega) rfl) ?_ | refine WE_call 0 rfl hat rfl rfl rfl ?_ | refine WE_callB rfl hcl rfl (fun _ => ?_) (fun _ => ?_) | refine WE_cons (.inl ⟨rfl, stepE_ok hty rfl rfl⟩) ?_ | refine WE_cons (.inl ⟨rfl, m_idxN hty rfl rfl rfl (by assumption) rfl⟩) ?_ | refine WE_nil ⟨by kernel_rfl, ?_⟩ | refine WL_p hty rfl rfl ?_ | refine WL_nil ?_ | refine AC_seq ?_ | refine AC_region ?_ | refine AC_block ?_ | refine AC_skip ?_ | refine AC_condT rfl ?_ | refine AC_condF rfl ?_ | refine AC_exit ?_ | refine AC_ret ?_ | refine WL_m rfl (m_idxN hty rfl rfl rfl (by assumption) rfl) ?_ | refine ends_bool rfl ?_ | refine WL_cmp rfl rfl rfl rfl (fun _ => ?_) (fun _ => ?_) | refine AC_cond rfl (fun _ => ?_) (fun _ => ?_))
      · rename_i hq
        refine ⟨hlt, hnext (hpa.trans hq), (less_sub ⟨⟨_, rfl, .inl ⟨.refl _, rfl⟩⟩, ⟨_, rfl, .inl ⟨.refl _, rfl⟩⟩, ⟨_, rfl, .inl ⟨.refl _, rfl⟩⟩, ⟨_, rfl, .inl ⟨.refl _, rfl⟩⟩, ⟨_, rfl, see_eq ?_ rfl⟩, trivial⟩ ⟨⟨⟨_, rfl, .refl _⟩, rfl⟩, trivial⟩)⟩
        exact congrArg (AV.int .i64) ((wrap_ok (by omega) (by omega)).trans (by omega))
      · exact (hbad (hpa.trans ‹_›)).symm
    · have hpa : argP b base (l.take j) c ⟨true, tt, dd, so, ix⟩ = (domsP b base (l.take j) 0 dd && idxP b base (l.take j) dd.length c so ix) := rfl
      have hae : argB b ⟨true, tt, dd, so, ix⟩ (j : Nat) = ((decide (tt = zT) && (decide (dd.length ≤ 12) && (inR so 0 ((b.sorts.length : Int) - 1) && decide (ix.length = idxN b so)))) && (openSeq (j : Nat) dd && ix.all fun t => openT t ((j : Nat) + dd.length))) := rfl
      rw [hae] at hag
      simp only [Bool.and_eq_true, decide_eq_true_eq, inR] at hag
      obtain ⟨⟨_, a2, ⟨a3, a4⟩, a5⟩, a6, a7⟩ := hag
      repeat' (first | (refine AC_drawnE (id := 4) tbDocI117_4 rfl (by kernel_rfl) ?_) | refine WE_m rfl (m_sliceL hty 0 j rfl rfl rfl ⟨_, _, rfl, rfl⟩ (Nat.zero_le _) (by rw [rsA_length]; omega) rfl) ?_ | refine WE_call 0 rfl hat rfl rfl rfl ?_ | refine WE_cons (.inl ⟨rfl, stepE_ok hty rfl rfl⟩) ?_ | refine WE_cons (.inl ⟨rfl, m_idxN hty rfl rfl rfl (by assumption) rfl⟩) ?_ | refine WE_nil ⟨by kernel_rfl, ?_⟩ | refine WL_p hty rfl rfl ?_ | refine WL_nil ?_ | refine AC_seq ?_ | refine AC_region ?_ | refine AC_block ?_ | refine AC_skip ?_ | refine AC_condT rfl ?_ | refine AC_condF rfl ?_ | refine AC_exit ?_ | refine AC_ret ?_ | refine WL_m rfl (m_idxN hty rfl rfl rfl (by assumption) rfl) ?_ | refine ends_bool rfl ?_ | refine WL_cmp rfl rfl rfl rfl (fun _ => ?_) (fun _ => ?_) | refine AC_cond rfl (fun _ => ?_) (fun _ => ?_))
      refine AC_for dd.length (fun k => domsP b base (l.take j) 0 (dd.take k) = true)
        (fun k => ⟨envOf [(1, .int .i64 base), (2, sA l), (3, .int .i64 c), (4, .ptr 4 0), (9, .int .i64 (j : Nat)), (10, .ptr 10 0), (11, .int .i64 (k : Nat))],
          bkOf [(4, .box (cB b)), (10, .box (cQ (plQ b base (l.take j) 0)))]⟩)
        (less_sub ⟨⟨_, rfl, .inl ⟨.refl _, rfl⟩⟩, ⟨_, rfl, .inl ⟨.refl _, rfl⟩⟩, ⟨_, rfl, .inl ⟨.refl _, rfl⟩⟩, ⟨_, rfl, .inl ⟨.refl _, rfl⟩⟩, ⟨_, rfl, .inl ⟨.refl _, rfl⟩⟩, ⟨_, rfl, .inl ⟨.refl _, rfl⟩⟩, ⟨_, rfl, .inl ⟨.refl _, rfl⟩⟩, trivial⟩ ⟨⟨⟨_, rfl, .refl _⟩, rfl⟩, ⟨⟨_, rfl, .refl _⟩, rfl⟩, trivial⟩) rfl ?_
      intro k hk hJ
      repeat' (first | refine WL_m rfl (m_idxN (i := j) hty rfl rfl rfl ra rfl) ?_ | refine WL_p hty rfl rfl ?_ | refine WL_nil ?_ | refine AC_seq ?_ | refine AC_region ?_ | refine AC_block ?_ | refine AC_skip ?_ | refine AC_condT rfl ?_ | refine AC_condF rfl ?_ | refine AC_exit ?_ | refine AC_ret ?_ | refine WL_m rfl (m_idxN hty rfl rfl rfl (by assumption) rfl) ?_ | refine ends_bool rfl ?_)
      refine WL_cmp rfl rfl rfl rfl (fun hc2 => ?_) (fun hc2 => ?_)
      · have hc2 : (k : Int) < ((rsT dd).length : Int) := hc2
        have hkl : k < dd.length := by rw [rsT_length] at hc2; omega
        obtain ⟨d, hd, hdm⟩ := get_of_lt hkl
        have rd := rsT_get hd
        obtain ⟨o1, o2, o3⟩ := openT_ok (openSeq_get a6 hd)
        have hcl := rclean_spec b base (l.take j) k d hb htl (by omega) o3 (by omega)
        have hmo := rmore_spec b base (l.take j) 0 k htl (by omega)
        rw [Nat.zero_add] at hmo
        repeat' (first | (refine AC_drawnE (id := 11) tbDocI117_11 rfl (by kernel_rfl) ?_) | refine WE_m rfl (m_idxN (i := j) hty rfl rfl rfl ra rfl) ?_ | refine WE_m rfl (m_idxN (i := k) hty rfl rfl rfl rd rfl) ?_ | refine WE_call 0 rfl hmo rfl rfl rfl ?_ | refine WE_callB rfl hcl rfl (fun _ => ?_) (fun _ => ?_) | refine WE_cons (.inl ⟨rfl, stepE_ok hty rfl rfl⟩) ?_ | refine WE_cons (.inl ⟨rfl, m_idxN hty rfl rfl rfl (by assumption) rfl⟩) ?_ | refine WE_nil ⟨by kernel_rfl, ?_⟩ | refine WL_p hty rfl rfl ?_ | refine WL_nil ?_ | refine AC_seq ?_ | refine AC_region ?_ | refine AC_block ?_ | refine AC_skip ?_ | refine AC_condT rfl ?_ | refine AC_condF rfl ?_ | refine AC_exit ?_ | refine AC_ret ?_ | refine WL_m rfl (m_idxN hty rfl rfl rfl (by assumption) rfl) ?_ | refine ends_bool rfl ?_ | refine WL_cmp rfl rfl rfl rfl (fun _ => ?_) (fun _ => ?_) | refine AC_cond rfl (fun _ => ?_) (fun _ => ?_))
        all_goals rename_i hq
        · refine ⟨hkl, by rw [domsP_next _ _ _ hd, hJ, hq]; rfl, (less_sub ⟨⟨_, rfl, .inl ⟨.refl _, rfl⟩⟩, ⟨_, rfl, .inl ⟨.refl _, rfl⟩⟩, ⟨_, rfl, .inl ⟨.refl _, rfl⟩⟩, ⟨_, rfl, .inl ⟨.refl _, rfl⟩⟩, ⟨_, rfl, .inl ⟨.refl _, rfl⟩⟩, ⟨_, rfl, .inl ⟨.refl _, rfl⟩⟩, ⟨_, rfl, see_eq ?_ rfl⟩, trivial⟩ ⟨⟨⟨_, rfl, .refl _⟩, rfl⟩, ⟨⟨_, rfl, .refl _⟩, rfl⟩, trivial⟩)⟩
          exact congrArg (AV.int .i64) ((wrap_ok (by omega) (by omega)).trans (by omega))
        · exact (hbad (by rw [hpa, domsP_split _ _ _ hd, hq]; simp)).symm
      · have hc2 : ¬ (k : Int) < ((rsT dd).length : Int) := hc2
        obtain rfl : k = dd.length := by rw [rsT_length] at hc2; omega
        rw [List.take_length] at hJ
        have hmo := rmore_spec b base (l.take j) 0 dd.length htl (by omega)
        rw [Nat.zero_add, ← rsT_length dd] at hmo
        rw [rsT_length dd] at hmo
        have hmo' : FC Tryz.prog 163 [aQ (plQ b base (l.take j) 0), .int .i64 ((rsT dd).length : Nat)] (aQ (plQ b base (l.take j) dd.length)) := by rw [rsT_length]; exact hmo
        have hix := rindices_spec b base (l.take j) dd.length c so ix hb htl (by omega) ⟨a3, by omega⟩ a5 (fun x hx => openT_ok (List.all_eq_true.1 a7 x hx))
        repeat' (first | (refine AC_drawnE (id := 13) tbDocI117_13 rfl (by kernel_rfl) ?_) | refine WE_m rfl (m_idxN (i := j) hty rfl rfl rfl ra rfl) ?_ | refine WE_call 0 rfl hmo' rfl rfl rfl ?_ | refine WE_callB rfl hix rfl (fun _ => ?_) (fun _ => ?_) | refine WE_cons (.inl ⟨rfl, stepE_ok hty rfl rfl⟩) ?_ | refine WE_cons (.inl ⟨rfl, m_idxN hty rfl rfl rfl (by assumption) rfl⟩) ?_ | refine WE_nil ⟨by kernel_rfl, ?_⟩ | refine WL_p hty rfl rfl ?_ | refine WL_nil ?_ | refine AC_seq ?_ | refine AC_region ?_ | refine AC_block ?_ | refine AC_skip ?_ | refine AC_condT rfl ?_ | refine AC_condF rfl ?_ | refine AC_exit ?_ | refine AC_ret ?_ | refine WL_m rfl (m_idxN hty rfl rfl rfl (by assumption) rfl) ?_ | refine ends_bool rfl ?_ | refine WL_cmp rfl rfl rfl rfl (fun _ => ?_) (fun _ => ?_) | refine AC_cond rfl (fun _ => ?_) (fun _ => ?_))
        all_goals rename_i hq
        · refine ⟨hlt, hnext (by rw [hpa, hJ, hq]; rfl), (less_sub ⟨⟨_, rfl, .inl ⟨.refl _, rfl⟩⟩, ⟨_, rfl, .inl ⟨.refl _, rfl⟩⟩, ⟨_, rfl, .inl ⟨.refl _, rfl⟩⟩, ⟨_, rfl, .inl ⟨.refl _, rfl⟩⟩, ⟨_, rfl, see_eq ?_ rfl⟩, trivial⟩ ⟨⟨⟨_, rfl, .refl _⟩, rfl⟩, trivial⟩)⟩
          exact congrArg (AV.int .i64) ((wrap_ok (by omega) (by omega)).trans (by omega))
        · exact (hbad (by rw [hpa, hq]; simp)).symm
  · obtain rfl : j = l.length := by rw [rsA_length] at hc; omega
    repeat' (first | refine WL_p hty rfl rfl ?_ | refine WL_nil ?_ | refine AC_seq ?_ | refine AC_region ?_ | refine AC_block ?_ | refine AC_skip ?_ | refine AC_condT rfl ?_ | refine AC_condF rfl ?_ | refine AC_exit ?_ | refine AC_ret ?_ | refine WL_m rfl (m_idxN hty rfl rfl rfl (by assumption) rfl) ?_ | refine ends_bool rfl ?_ | refine WL_cmp rfl rfl rfl rfl (fun _ => ?_) (fun _ => ?_) | refine AC_cond rfl (fun _ => ?_) (fun _ => ?_))
    exact (rowP_iff.2 fun i a h1 => hI i a (List.getElem?_eq_some_iff.1 h1).1 h1).symm

end Go.Proofs.YtlonpgdnmngnmaaGreat

/-
  The document's answer: whether a block is positive.
-/
namespace Go.Proofs.YtlonpgdnmngnmaaGreat
set_option linter.unusedSimpArgs false
set_option linter.unusedVariables false
open Go.Aw Go.RowKit
def tbDocPo71_9 : List (Nat × List Nat) := [(0, []), (1, []), (2, []), (3, [2]), (4, [0, 1, 2, 3]), (5, [0, 1, 2, 3, 4]), (6, [0, 1, 2, 3, 4, 5]), (7, [0, 1, 2, 3, 4, 5, 6]), (8, [0, 1, 2, 3, 4, 5, 6, 7]), (9, [0, 1, 2, 3, 4, 5, 6, 7, 8]), (10, [0, 1, 2, 3, 4, 5, 6, 7, 8, 9]), (11, [0, 1, 2, 3, 4, 5, 6, 7, 8, 9]), (12, [0, 1, 2, 3, 4, 5, 6, 7, 8, 9]), (13, [0, 1, 2, 3, 4, 5, 6, 7, 8, 9, 12]), (14, [0, 1, 2, 3, 4, 5, 6, 7, 8, 9, 10, 11, 12, 13]), (15, [0, 1, 2, 3, 4, 5, 6, 7, 8, 9]), (16, [0, 1, 2, 3, 4, 5, 6, 7, 8, 9, 15]), (17, [0, 1, 2, 3, 4, 5, 6, 7, 8, 9, 10, 11, 12, 13, 14, 15, 16]), (18, [0, 1, 2, 3, 4, 5, 6, 7, 8, 9, 10, 11, 12, 13, 14, 15, 16, 17]), (19, [0, 1, 2, 3, 4, 5, 6, 7, 8, 9, 10, 11, 12, 13, 14, 15, 16, 17, 18]), (20, [0, 1, 2, 3, 4, 5, 6, 7, 8, 9, 10, 11, 12, 13, 14, 15, 16, 17, 18, 19])]
attribute [local irreducible] WL AC WD WE MStep OkOp
attribute [local irreducible] cleanT goodT

set_option maxRecDepth 4000 in
set_option maxHeartbeats 16000000 in
theorem rposit_spec (b : Bl) (base : Int) (hb : b.size ≤ 1048576) : FC Tryz.prog 71 [aB b, .int .i64 base] (.int .i64 (positI b base)) := by
  have hsc := rshape_spec b hb
  have hb' : b.size = sizesS b.sorts + sizesC b.cons := rfl
  have hsl := len_le_sizesS b.sorts
  have hcl := len_le_sizesC b.cons
  by_cases hsh : shapeB b = true
  case neg =>
    rw [Bool.eq_false_iff.2 hsh] at hsc
    have hp : positI b base = 12 := by unfold positI; rw [if_neg hsh]
    rw [hp]
    refine FC_intro hty Tryz.func71 rfl rfl rfl fun w0 => ?_
    repeat' (first | refine WL_call 0 rfl hsc rfl rfl rfl ?_ | refine WL_p hty rfl rfl ?_ | refine WL_nil ?_ | refine AC_seq ?_ | refine AC_region ?_ | refine AC_block ?_ | refine AC_skip ?_ | refine AC_condT rfl ?_ | refine AC_condF rfl ?_ | refine AC_exit ?_ | refine AC_ret ?_ | refine WL_ung rfl rfl ?_ | refine WL_offT rfl rfl rfl ?_ | refine WL_offF rfl rfl rfl ?_ | refine WL_offU rfl rfl rfl ?_ | refine WL_m rfl (m_idxN hty rfl rfl rfl (by assumption) rfl) ?_ | refine ends_bool rfl ?_ | refine WL_cmp rfl rfl rfl rfl (fun _ => ?_) (fun _ => ?_) | refine AC_cond rfl (fun _ => ?_) (fun _ => ?_))
    exact ends_int rfl rfl
  rw [hsh] at hsc
  by_cases hba : inR base 0 65535 = true
  case neg =>
    have hba' := Bool.eq_false_iff.2 hba
    have hp : positI b base = 1 := by
      unfold positI; rw [if_pos hsh]
      rw [inR_not] at hba'
      split
      · rfl
      · rw [if_pos (by omega)]
    have hi := in7_spec base 0 65535
    rw [hba'] at hi
    rw [hp]
    refine FC_intro hty Tryz.func71 rfl rfl rfl fun w0 => ?_
    repeat' (first | refine WL_call 0 rfl hsc rfl rfl rfl ?_ | refine WL_call 0 rfl hi rfl rfl rfl ?_ | refine WL_p hty rfl rfl ?_ | refine WL_nil ?_ | refine AC_seq ?_ | refine AC_region ?_ | refine AC_block ?_ | refine AC_skip ?_ | refine AC_condT rfl ?_ | refine AC_condF rfl ?_ | refine AC_exit ?_ | refine AC_ret ?_ | refine WL_ung rfl rfl ?_ | refine WL_offT rfl rfl rfl ?_ | refine WL_offF rfl rfl rfl ?_ | refine WL_offU rfl rfl rfl ?_ | refine WL_m rfl (m_idxN hty rfl rfl rfl (by assumption) rfl) ?_ | refine ends_bool rfl ?_ | refine WL_cmp rfl rfl rfl rfl (fun _ => ?_) (fun _ => ?_) | refine AC_cond rfl (fun _ => ?_) (fun _ => ?_))
    exact ends_int rfl rfl
  have hi := in7_spec base 0 65535
  rw [hba] at hi
  have hp : positI b base = if (b.sorts.all (sortP b base) && consP b base) = true then 0 else 11 := by
    unfold positI
    rw [inR_iff] at hba
    rw [if_pos hsh, if_neg (by omega), if_neg (by omega)]
  rw [hp]
  refine FC_intro hty Tryz.func71 rfl rfl rfl fun w0 => ?_
  repeat' (first | refine WL_call 0 rfl hsc rfl rfl rfl ?_ | refine WL_call 0 rfl hi rfl rfl rfl ?_ | refine WL_p hty rfl rfl ?_ | refine WL_nil ?_ | refine AC_seq ?_ | refine AC_region ?_ | refine AC_block ?_ | refine AC_skip ?_ | refine AC_condT rfl ?_ | refine AC_condF rfl ?_ | refine AC_exit ?_ | refine AC_ret ?_ | refine WL_ung rfl rfl ?_ | refine WL_offT rfl rfl rfl ?_ | refine WL_offF rfl rfl rfl ?_ | refine WL_offU rfl rfl rfl ?_ | refine WL_m rfl (m_idxN hty rfl rfl rfl (by assumption) rfl) ?_ | refine ends_bool rfl ?_ | refine WL_cmp rfl rfl rfl rfl (fun _ => ?_) (fun _ => ?_) | refine AC_cond rfl (fun _ => ?_) (fun _ => ?_))
  refine AC_for b.sorts.length (fun j => ∀ (i : Nat) (s : Sr), i < j → b.sorts[i]? = some s → sortP b base s = true)
    (fun j => ⟨envOf [(1, .int .i64 base), (2, .ptr 2 0), (5, .int .i64 (j : Nat))], bkOf [(2, .box (cB b))]⟩)
    (less_sub ⟨⟨_, rfl, .inl ⟨.refl _, rfl⟩⟩, ⟨_, rfl, .inl ⟨.refl _, rfl⟩⟩, ⟨_, rfl, .inl ⟨.refl _, rfl⟩⟩, trivial⟩ ⟨⟨⟨_, rfl, .refl _⟩, rfl⟩, trivial⟩) (fun i s hi => absurd hi (Nat.not_lt_zero _)) ?_
  intro j hj hI
  repeat' (first | refine WL_p hty rfl rfl ?_ | refine WL_nil ?_ | refine AC_seq ?_ | refine AC_region ?_ | refine AC_block ?_ | refine AC_skip ?_ | refine AC_condT rfl ?_ | refine AC_condF rfl ?_ | refine AC_exit ?_ | refine AC_ret ?_ | refine WL_ung rfl rfl ?_ | refine WL_offT rfl rfl rfl ?_ | refine WL_offF rfl rfl rfl ?_ | refine WL_offU rfl rfl rfl ?_ | refine WL_m rfl (m_idxN hty rfl rfl rfl (by assumption) rfl) ?_ | refine ends_bool rfl ?_)
  refine WL_cmp rfl rfl rfl rfl (fun hc => ?_) (fun hc => ?_)
  · have hlt : j < b.sorts.length := by rw [rsS_length] at hc; omega
    obtain ⟨s, hs, hsm⟩ := get_of_lt hlt
    have rs := rsS_get hs
    have hsz := size_le_sizesS hsm
    have hs2 : s.size = sizesA s.idx + s.decT.size := rfl
    have hla := len_le_sizesA s.idx
    have hsb := shapeB_sorts hsh hs
    have hrow := rtele_spec b base 0 s.idx hb (by omega) (sortB_row hsb)
    have hnext : sortP b base s = true → ∀ (i : Nat) (s : Sr), i < j + 1 → b.sorts[i]? = some s → sortP b base s = true := fun hp i u hi hu => by
      rcases Nat.lt_or_ge i j with q | q
      · exact hI i u q hu
      · obtain rfl : i = j := by omega
        rw [hs] at hu
        obtain rfl := Option.some.inj hu
        exact hp
    have hbad : sortP b base s = false → ¬ (b.sorts.all (sortP b base) && consP b base) = true := fun hp q => by
      simp only [Bool.and_eq_true] at q
      rw [List.all_eq_true.1 q.1 s hsm] at hp; cases hp
    have hat := rat_spec b base s.idx (by omega)
    have hcl2 : s.dec = true → FC Tryz.prog 119 [aQ (plQ b base s.idx 0), aT s.decT] (.bool (cleanT b base s.idx 0 s.decT)) := fun hd => by
      obtain ⟨o1, o2, o3⟩ := openT_ok (sortB_dec hsb hd)
      exact rclean_spec b base s.idx 0 s.decT hb (by omega) (by omega) o3 (by omega)
    have hsp : sortP b base s = (rowP b base 0 s.idx && (!s.dec || cleanT b base s.idx 0 s.decT)) := rfl
    have hfin : (AV.int .i64 (IntKind.i64.wrap ((j : Nat) + 1))) = .int .i64 ((j + 1 : Nat) : Int) := congrArg (AV.int .i64) ((wrap_ok (by omega) (by omega)).trans (by omega))
    obtain ⟨sx, sl, sd, st⟩ := s
    cases sd
    · repeat' (first | (refine AC_regK (id := 9) ?_; refine AC_less (less_sub (l := [(1, _), (2, _), (5, _), (6, _)]) (bl := [(2, _), (6, _)]) ⟨⟨_, rfl, .inl ⟨.refl _, rfl⟩⟩, ⟨_, rfl, .inl ⟨.refl _, rfl⟩⟩, ⟨_, rfl, .inl ⟨.refl _, rfl⟩⟩, ⟨_, rfl, .inl ⟨.refl _, rfl⟩⟩, trivial⟩ ⟨⟨⟨_, rfl, .refl _⟩, rfl⟩, ⟨⟨_, rfl, .refl _⟩, rfl⟩, trivial⟩) ?_; refine AC_drawnE (id := 9) tbDocPo71_9 rfl (by kernel_rfl) ?_) | refine WE_callB rfl hrow rfl (fun _ => ?_) (fun _ => ?_) | refine WE_cons (.inl ⟨rfl, stepE_ok hty rfl rfl⟩) ?_ | refine WE_ung rfl rfl ?_ | refine WE_offT rfl rfl rfl ?_ | refine WE_offF rfl rfl rfl ?_ | refine WE_offU rfl rfl rfl ?_ | refine WE_nil ⟨by kernel_rfl, ?_⟩ | refine WL_p hty rfl rfl ?_ | refine WL_nil ?_ | refine AC_seq ?_ | refine AC_region ?_ | refine AC_block ?_ | refine AC_skip ?_ | refine AC_condT rfl ?_ | refine AC_condF rfl ?_ | refine AC_exit ?_ | refine AC_ret ?_ | refine WL_ung rfl rfl ?_ | refine WL_offT rfl rfl rfl ?_ | refine WL_offF rfl rfl rfl ?_ | refine WL_offU rfl rfl rfl ?_ | refine WL_m rfl (m_idxN hty rfl rfl rfl (by assumption) rfl) ?_ | refine ends_bool rfl ?_ | refine WL_cmp rfl rfl rfl rfl (fun _ => ?_) (fun _ => ?_) | refine AC_cond rfl (fun _ => ?_) (fun _ => ?_))
      all_goals rename_i hq
      · (refine ⟨hlt, hnext (by rw [hsp, hq]; rfl), (less_sub ⟨⟨_, rfl, .inl ⟨.refl _, rfl⟩⟩, ⟨_, rfl, .inl ⟨.refl _, rfl⟩⟩, ⟨_, rfl, see_eq ?_ rfl⟩, trivial⟩ ⟨⟨⟨_, rfl, .refl _⟩, rfl⟩, trivial⟩)⟩; exact hfin)
      · refine ends_int rfl ?_
        rw [if_neg (hbad (by rw [hsp, hq]; rfl))]
    · have hcl3 := hcl2 rfl
      repeat' (first | (refine AC_regK (id := 9) ?_; refine AC_less (less_sub (l := [(1, _), (2, _), (5, _), (6, _)]) (bl := [(2, _), (6, _)]) ⟨⟨_, rfl, .inl ⟨.refl _, rfl⟩⟩, ⟨_, rfl, .inl ⟨.refl _, rfl⟩⟩, ⟨_, rfl, .inl ⟨.refl _, rfl⟩⟩, ⟨_, rfl, .inl ⟨.refl _, rfl⟩⟩, trivial⟩ ⟨⟨⟨_, rfl, .refl _⟩, rfl⟩, ⟨⟨_, rfl, .refl _⟩, rfl⟩, trivial⟩) ?_; refine AC_drawnE (id := 9) tbDocPo71_9 rfl (by kernel_rfl) ?_) | refine WE_callB rfl hrow rfl (fun _ => ?_) (fun _ => ?_) | refine WE_call 0 rfl hat rfl rfl rfl ?_ | refine WE_callB rfl hcl3 rfl (fun _ => ?_) (fun _ => ?_) | refine WE_cons (.inl ⟨rfl, stepE_ok hty rfl rfl⟩) ?_ | refine WE_ung rfl rfl ?_ | refine WE_offT rfl rfl rfl ?_ | refine WE_offF rfl rfl rfl ?_ | refine WE_offU rfl rfl rfl ?_ | refine WE_nil ⟨by kernel_rfl, ?_⟩ | refine WL_p hty rfl rfl ?_ | refine WL_nil ?_ | refine AC_seq ?_ | refine AC_region ?_ | refine AC_block ?_ | refine AC_skip ?_ | refine AC_condT rfl ?_ | refine AC_condF rfl ?_ | refine AC_exit ?_ | refine AC_ret ?_ | refine WL_ung rfl rfl ?_ | refine WL_offT rfl rfl rfl ?_ | refine WL_offF rfl rfl rfl ?_ | refine WL_offU rfl rfl rfl ?_ | refine WL_m rfl (m_idxN hty rfl rfl rfl (by assumption) rfl) ?_ | refine ends_bool rfl ?_ | refine WL_cmp rfl rfl rfl rfl (fun _ => ?_) (fun _ => ?_) | refine AC_cond rfl (fun _ => ?_) (fun _ => ?_))
      · rename_i hq hq2
        (refine ⟨hlt, hnext (by rw [hsp, hq, hq2]; rfl), (less_sub ⟨⟨_, rfl, .inl ⟨.refl _, rfl⟩⟩, ⟨_, rfl, .inl ⟨.refl _, rfl⟩⟩, ⟨_, rfl, see_eq ?_ rfl⟩, trivial⟩ ⟨⟨⟨_, rfl, .refl _⟩, rfl⟩, trivial⟩)⟩; exact hfin)
      · rename_i hq hq2
        refine ends_int rfl ?_
        rw [if_neg (hbad (by rw [hsp, hq, hq2]; rfl))]
      · rename_i hq
        refine ends_int rfl ?_
        rw [if_neg (hbad (by rw [hsp, hq]; rfl))]
  · obtain rfl : j = b.sorts.length := by rw [rsS_length] at hc; omega
    have hall : b.sorts.all (sortP b base) = true := List.all_eq_true.2 fun s hs => by
      obtain ⟨i, hi, rfl⟩ := List.mem_iff_getElem.1 hs
      exact hI i _ hi (List.getElem?_eq_getElem hi)
    rw [hall, Bool.true_and]
    repeat' (first | refine WL_p hty rfl rfl ?_ | refine WL_nil ?_ | refine AC_seq ?_ | refine AC_region ?_ | refine AC_block ?_ | refine AC_skip ?_ | refine AC_condT rfl ?_ | refine AC_condF rfl ?_ | refine AC_exit ?_ | refine AC_ret ?_ | refine WL_ung rfl rfl ?_ | refine WL_offT rfl rfl rfl ?_ | refine WL_offF rfl rfl rfl ?_ | refine WL_offU rfl rfl rfl ?_ | refine WL_m rfl (m_idxN hty rfl rfl rfl (by assumption) rfl) ?_ | refine ends_bool rfl ?_ | refine WL_cmp rfl rfl rfl rfl (fun _ => ?_) (fun _ => ?_) | refine AC_cond rfl (fun _ => ?_) (fun _ => ?_))
    refine AC_for b.cons.length (fun j => ∀ (i : Nat) (x : Cn), i < j → b.cons[i]? = some x → conP b base (i : Nat) x = true)
      (fun j => ⟨envOf [(1, .int .i64 base), (2, .ptr 2 0), (7, .int .i64 (j : Nat))], bkOf [(2, .box (cB b))]⟩)
      (less_sub ⟨⟨_, rfl, .inl ⟨.refl _, rfl⟩⟩, ⟨_, rfl, .inl ⟨.refl _, rfl⟩⟩, ⟨_, rfl, .inl ⟨.refl _, rfl⟩⟩, trivial⟩ ⟨⟨⟨_, rfl, .refl _⟩, rfl⟩, trivial⟩) (fun i s hi => absurd hi (Nat.not_lt_zero _)) ?_
    intro j hj hI
    repeat' (first | refine WL_p hty rfl rfl ?_ | refine WL_nil ?_ | refine AC_seq ?_ | refine AC_region ?_ | refine AC_block ?_ | refine AC_skip ?_ | refine AC_condT rfl ?_ | refine AC_condF rfl ?_ | refine AC_exit ?_ | refine AC_ret ?_ | refine WL_ung rfl rfl ?_ | refine WL_offT rfl rfl rfl ?_ | refine WL_offF rfl rfl rfl ?_ | refine WL_offU rfl rfl rfl ?_ | refine WL_m rfl (m_idxN hty rfl rfl rfl (by assumption) rfl) ?_ | refine ends_bool rfl ?_)
    refine WL_cmp rfl rfl rfl rfl (fun hc => ?_) (fun hc => ?_)
    · have hlt : j < b.cons.length := by rw [rsC_length] at hc; omega
      obtain ⟨x, hx, hxm⟩ := get_of_lt hlt
      have rx := rsC_get hx
      have hsz := size_le_sizesC hxm
      have hs2 : x.size = sizesA x.args + sizes x.idx + x.dec.size := rfl
      have hla := len_le_sizesA x.args
      obtain ⟨f1, f2, f3, f4, f5⟩ := conB_facts (shapeB_cons hsh hxm)
      have f10 := f1.1
      obtain ⟨s, hs, _⟩ := get_of_lt f1.2
      have rs := rsS_get hs
      have hds : decS b x.sort = s.dec := by unfold decS; rw [hs]
      have hat := rat_spec b base x.args (by omega)
      have hrow := rtele_spec b base (j : Nat) x.args hb (by omega) f3
      have hidx : FC Tryz.prog 120 [aQ (plQ b base x.args 0), .int .i64 x.sort, sT x.idx, .int .i64 (j : Nat)] (.bool (idxP b base x.args 0 (j : Nat) x.sort x.idx)) := rindices_spec b base x.args 0 (j : Nat) x.sort x.idx hb (by omega) (by omega) f1 f2 (fun y hy => openT_ok (f4 y hy))
      have hnext : conP b base (j : Nat) x = true → ∀ (i : Nat) (x : Cn), i < j + 1 → b.cons[i]? = some x → conP b base (i : Nat) x = true := fun hp i u hi hu => by
        rcases Nat.lt_or_ge i j with q | q
        · exact hI i u q hu
        · obtain rfl : i = j := by omega
          rw [hx] at hu
          obtain rfl := Option.some.inj hu
          exact hp
      have hbad : conP b base (j : Nat) x = false → ¬ consP b base = true := fun hp q => by
        rw [consP_iff.1 q j x hx] at hp; cases hp
      have hcl2 : s.dec = true → FC Tryz.prog 119 [aQ (plQ b base x.args 0), aT x.dec] (.bool (cleanT b base x.args 0 x.dec)) := fun hd => by
        obtain ⟨o1, o2, o3⟩ := openT_ok (f5 (hds.trans hd))
        exact rclean_spec b base x.args 0 x.dec hb (by omega) (by omega) o3 (by omega)
      have hsp : conP b base (j : Nat) x = (rowP b base (j : Nat) x.args && (idxP b base x.args 0 (j : Nat) x.sort x.idx && (!s.dec || cleanT b base x.args 0 x.dec))) := by unfold conP; rw [hds]
      have hfin : (AV.int .i64 (IntKind.i64.wrap ((j : Nat) + 1))) = .int .i64 ((j + 1 : Nat) : Int) := congrArg (AV.int .i64) ((wrap_ok (by omega) (by omega)).trans (by omega))
      obtain ⟨sx, sl, sd, st⟩ := s
      cases sd
      · repeat' (first | refine WL_call 0 rfl hat rfl rfl rfl ?_ | refine WL_callB rfl hrow rfl (fun _ => ?_) (fun _ => ?_) | refine WL_callB rfl hidx rfl (fun _ => ?_) (fun _ => ?_) | refine WL_m rfl (m_idxL hty rfl rfl rfl f10 rs rfl) ?_ | refine WL_p hty rfl rfl ?_ | refine WL_nil ?_ | refine AC_seq ?_ | refine AC_region ?_ | refine AC_block ?_ | refine AC_skip ?_ | refine AC_condT rfl ?_ | refine AC_condF rfl ?_ | refine AC_exit ?_ | refine AC_ret ?_ | refine WL_ung rfl rfl ?_ | refine WL_offT rfl rfl rfl ?_ | refine WL_offF rfl rfl rfl ?_ | refine WL_offU rfl rfl rfl ?_ | refine WL_m rfl (m_idxN hty rfl rfl rfl (by assumption) rfl) ?_ | refine ends_bool rfl ?_ | refine WL_cmp rfl rfl rfl rfl (fun _ => ?_) (fun _ => ?_) | refine AC_cond rfl (fun _ => ?_) (fun _ => ?_))
        · rename_i hq hq2
          (refine ⟨hlt, hnext (by rw [hsp, hq, hq2]; rfl), (less_sub ⟨⟨_, rfl, .inl ⟨.refl _, rfl⟩⟩, ⟨_, rfl, .inl ⟨.refl _, rfl⟩⟩, ⟨_, rfl, see_eq ?_ rfl⟩, trivial⟩ ⟨⟨⟨_, rfl, .refl _⟩, rfl⟩, trivial⟩)⟩; exact hfin)
        · rename_i hq hq2
          refine ends_int rfl ?_
          rw [if_neg (hbad (by rw [hsp, hq, hq2]; rfl))]
        · rename_i hq
          refine ends_int rfl ?_
          rw [if_neg (hbad (by rw [hsp, hq]; rfl))]
      · have hcl3 := hcl2 rfl
        repeat' (first | refine WL_call 0 rfl hat rfl rfl rfl ?_ | refine WL_callB rfl hrow rfl (fun _ => ?_) (fun _ => ?_) | refine WL_callB rfl hidx rfl (fun _ => ?_) (fun _ => ?_) | refine WL_callB rfl hcl3 rfl (fun _ => ?_) (fun _ => ?_) | refine WL_m rfl (m_idxL hty rfl rfl rfl f10 rs rfl) ?_ | refine WL_p hty rfl rfl ?_ | refine WL_nil ?_ | refine AC_seq ?_ | refine AC_region ?_ | refine AC_block ?_ | refine AC_skip ?_ | refine AC_condT rfl ?_ | refine AC_condF rfl ?_ | refine AC_exit ?_ | refine AC_ret ?_ | refine WL_ung rfl rfl ?_ | refine WL_offT rfl rfl rfl ?_ | refine WL_offF rfl rfl rfl ?_ | refine WL_offU rfl rfl rfl ?_ | refine WL_m rfl (m_idxN hty rfl rfl rfl (by assumption) rfl) ?_ | refine ends_bool rfl ?_ | refine WL_cmp rfl rfl rfl rfl (fun _ => ?_) (fun _ => ?_) | refine AC_cond rfl (fun _ => ?_) (fun _ => ?_))
        · rename_i hq hq2 hq3
          (refine ⟨hlt, hnext (by rw [hsp, hq, hq2, hq3]; rfl), (less_sub ⟨⟨_, rfl, .inl ⟨.refl _, rfl⟩⟩, ⟨_, rfl, .inl ⟨.refl _, rfl⟩⟩, ⟨_, rfl, see_eq ?_ rfl⟩, trivial⟩ ⟨⟨⟨_, rfl, .refl _⟩, rfl⟩, trivial⟩)⟩; exact hfin)
        · rename_i hq hq2 hq3
          refine ends_int rfl ?_
          rw [if_neg (hbad (by rw [hsp, hq, hq2, hq3]; rfl))]
        · rename_i hq hq2
          refine ends_int rfl ?_
          rw [if_neg (hbad (by rw [hsp, hq, hq2]; rfl))]
        · rename_i hq
          refine ends_int rfl ?_
          rw [if_neg (hbad (by rw [hsp, hq]; rfl))]
    · obtain rfl : j = b.cons.length := by rw [rsC_length] at hc; omega
      have hcp : consP b base = true := consP_iff.2 fun i x hx => hI i x (List.getElem?_eq_some_iff.1 hx).1 hx
      repeat' (first | refine WL_p hty rfl rfl ?_ | refine WL_nil ?_ | refine AC_seq ?_ | refine AC_region ?_ | refine AC_block ?_ | refine AC_skip ?_ | refine AC_condT rfl ?_ | refine AC_condF rfl ?_ | refine AC_exit ?_ | refine AC_ret ?_ | refine WL_ung rfl rfl ?_ | refine WL_offT rfl rfl rfl ?_ | refine WL_offF rfl rfl rfl ?_ | refine WL_offU rfl rfl rfl ?_ | refine WL_m rfl (m_idxN hty rfl rfl rfl (by assumption) rfl) ?_ | refine ends_bool rfl ?_ | refine WL_cmp rfl rfl rfl rfl (fun _ => ?_) (fun _ => ?_) | refine AC_cond rfl (fun _ => ?_) (fun _ => ?_))
      refine ends_int rfl ?_
      rw [if_pos hcp]

end Go.Proofs.YtlonpgdnmngnmaaGreat

/-
  The document's answer: the greatest constant that a block names.
-/
namespace Go.Proofs.YtlonpgdnmngnmaaGreat
set_option linter.unusedSimpArgs false
set_option linter.unusedVariables false
open Go.Aw Go.RowKit
def tbDocL121_5 : List (Nat × List Nat) := [(0, []), (1, []), (2, []), (3, [1, 2]), (4, [1, 2, 3]), (5, [1, 2, 3, 4]), (6, [1, 2, 3, 4, 5]), (7, [1, 2, 3, 4, 5, 6]), (8, []), (9, []), (10, [8, 9]), (11, [8, 9, 10]), (12, [8, 9, 10, 11]), (13, [1, 2, 3, 4, 5, 6, 7, 8, 9, 10, 11, 12]), (14, []), (15, []), (16, [14, 15]), (17, [14, 15, 16]), (18, [14, 15, 16, 17]), (19, [1, 2, 3, 4, 5, 6, 7, 8, 9, 10, 11, 12, 13, 14, 15, 16, 17, 18]), (20, [1, 2, 3, 4, 5, 6, 7, 8, 9, 10, 11, 12, 13, 14, 15, 16, 17, 18, 19]), (21, [1, 2, 3, 4, 5, 6, 7, 8, 9, 10, 11, 12, 13, 14, 15, 16, 17, 18, 19, 20]), (22, [0, 1, 2, 3, 4, 5, 6, 7, 8, 9, 10, 11, 12, 13, 14, 15, 16, 17, 18, 19, 20, 21]), (23, [0, 1, 2, 3, 4, 5, 6, 7, 8, 9, 10, 11, 12, 13, 14, 15, 16, 17, 18, 19, 20, 21, 22])]
def tbDocL72_5 : List (Nat × List Nat) := [(0, []), (1, []), (2, [1]), (3, []), (4, [1, 2, 3]), (5, [1, 2, 3, 4]), (6, [1, 2, 3, 4, 5]), (7, [1, 2, 3, 4, 5, 6]), (8, []), (9, [8]), (10, []), (11, [8, 9, 10]), (12, [8, 9, 10, 11]), (13, [8, 9, 10, 11, 12]), (14, [8, 9, 10, 11, 12, 13]), (15, [1, 2, 3, 4, 5, 6, 7, 8, 9, 10, 11, 12, 13, 14]), (16, [1, 2, 3, 4, 5, 6, 7, 8, 9, 10, 11, 12, 13, 14, 15]), (17, [0, 1, 2, 3, 4, 5, 6, 7, 8, 9, 10, 11, 12, 13, 14, 15, 16]), (18, [0, 1, 2, 3, 4, 5, 6, 7, 8, 9, 10, 11, 12, 13, 14, 15, 16, 17])]
def tbDocL72_9 : List (Nat × List Nat) := [(0, []), (1, []), (2, [1]), (3, []), (4, [1, 2, 3]), (5, [1, 2, 3, 4]), (6, [1, 2, 3, 4, 5]), (7, [1, 2, 3, 4, 5, 6]), (8, []), (9, [8]), (10, []), (11, [8, 9, 10]), (12, [8, 9, 10, 11]), (13, [8, 9, 10, 11, 12]), (14, [8, 9, 10, 11, 12, 13]), (15, [1, 2, 3, 4, 5, 6, 7, 8, 9, 10, 11, 12, 13, 14]), (16, []), (17, [16]), (18, []), (19, [16, 17, 18]), (20, [16, 17, 18, 19]), (21, [16, 17, 18, 19, 20]), (22, [1, 2, 3, 4, 5, 6, 7, 8, 9, 10, 11, 12, 13, 14, 15, 16, 17, 18, 19, 20, 21]), (23, [1, 2, 3, 4, 5, 6, 7, 8, 9, 10, 11, 12, 13, 14, 15, 16, 17, 18, 19, 20, 21, 22]), (24, [1, 2, 3, 4, 5, 6, 7, 8, 9, 10, 11, 12, 13, 14, 15, 16, 17, 18, 19, 20, 21, 22, 23]), (25, [0, 1, 2, 3, 4, 5, 6, 7, 8, 9, 10, 11, 12, 13, 14, 15, 16, 17, 18, 19, 20, 21, 22, 23, 24]), (26, [0, 1, 2, 3, 4, 5, 6, 7, 8, 9, 10, 11, 12, 13, 14, 15, 16, 17, 18, 19, 20, 21, 22, 23, 24, 25])]
attribute [local irreducible] WL AC WD WE MStep OkOp

def gmx (l : List Tm) : Int := mostTs l (-1)
theorem gI_comm (a b : Int) : gI a b = gI b a := by unfold gI; split <;> split <;> omega
theorem gI_assoc (a b c : Int) : gI (gI a b) c = gI a (gI b c) := by unfold gI; repeat' split
                                                                     all_goals omega
theorem mostTs_acc (l : List Tm) {a : Int} (h : -1 ≤ a) : mostTs l a = gI a (gmx l) := by
  have := mostTs_g l a (-1)
  rwa [show gI a (-1) = a by unfold gI; split <;> omega] at this
theorem gmx_ge (l : List Tm) : -1 ≤ gmx l := mostTs_ge l (-1)
theorem gmx_append (l m : List Tm) : gmx (l ++ m) = gI (gmx l) (gmx m) := by
  unfold gmx
  rw [mostTs_append]
  exact mostTs_acc m (gmx_ge l)
theorem gmx_next {l : List Tm} {i : Nat} {t : Tm} (h : l[i]? = some t) : gmx (l.take (i + 1)) = gI (gmx (l.take i)) (gmx [t]) := by
  rw [List.take_add_one, h, Option.toList_some, gmx_append]
theorem gmx_one (t : Tm) : gmx [t] = gI (if t.kind = 3 then gI (-1) t.num else -1) (gmx t.kids) := by
  cases t with
  | mk k n l =>
    show mostTs l (if k = 3 then gI (-1) n else -1) = _
    refine mostTs_acc l ?_
    split
    · exact (gI_le _ _).1
    · exact Int.le_refl _
theorem gI_m1 {a : Int} (h : -1 ≤ a) : gI a (-1) = a := by unfold gI; split <;> omega
theorem gmx_flat_next {α : Type} {f : α → List Tm} {l : List α} {i : Nat} {a : α} (h : l[i]? = some a) : gmx ((l.take (i + 1)).flatMap f) = gI (gmx ((l.take i).flatMap f)) (gmx (f a)) := by
  rw [List.take_add_one, h, Option.toList_some, List.flatMap_append, gmx_append]
  simp

set_option maxHeartbeats 1000000 in
theorem greatest_all : ∀ n, n ≤ 1048576 → ∀ l : List Tm, sizes l ≤ n → FC Tryz.prog 122 [sT l] (.int .i64 (gmx l)) := by
  intro n
  induction n with
  | zero =>
    intro hn l hl
    cases l with
    | nil =>
      refine FC_intro hty Tryz.func122 rfl rfl rfl fun w0 => ?_
      repeat' (first | refine WL_p hty rfl rfl ?_ | refine WL_nil ?_ | refine AC_seq ?_ | refine AC_region ?_ | refine AC_block ?_ | refine AC_skip ?_ | refine AC_condT rfl ?_ | refine AC_condF rfl ?_ | refine AC_exit ?_ | refine AC_ret ?_ | refine WL_m rfl (m_idxN hty rfl rfl rfl (by assumption) rfl) ?_ | refine ends_bool rfl ?_ | refine WL_cmp rfl rfl rfl rfl (fun _ => ?_) (fun _ => ?_) | refine AC_cond rfl (fun _ => ?_) (fun _ => ?_))
      refine AC_for 0 (fun _ => True) (fun j => ⟨envOf [(0, sT []), (3, .int .i64 (-1)), (4, .int .i64 (j : Nat))], bkOf []⟩) (less_sub ⟨⟨_, rfl, .inl ⟨.refl _, rfl⟩⟩, ⟨_, rfl, .inl ⟨.refl _, rfl⟩⟩, ⟨_, rfl, .inl ⟨.refl _, rfl⟩⟩, trivial⟩ trivial) trivial ?_
      intro j hj _
      repeat' (first | refine WL_p hty rfl rfl ?_ | refine WL_nil ?_ | refine AC_seq ?_ | refine AC_region ?_ | refine AC_block ?_ | refine AC_skip ?_ | refine AC_condT rfl ?_ | refine AC_condF rfl ?_ | refine AC_exit ?_ | refine AC_ret ?_ | refine WL_m rfl (m_idxN hty rfl rfl rfl (by assumption) rfl) ?_ | refine ends_bool rfl ?_)
      refine WL_cmp rfl rfl rfl rfl (fun hc => ?_) (fun hc => ?_)
      · exact absurd hc (show ¬ (j : Int) < 0 by omega)
      · repeat' (first | refine WL_p hty rfl rfl ?_ | refine WL_nil ?_ | refine AC_seq ?_ | refine AC_region ?_ | refine AC_block ?_ | refine AC_skip ?_ | refine AC_condT rfl ?_ | refine AC_condF rfl ?_ | refine AC_exit ?_ | refine AC_ret ?_ | refine WL_m rfl (m_idxN hty rfl rfl rfl (by assumption) rfl) ?_ | refine ends_bool rfl ?_ | refine WL_cmp rfl rfl rfl rfl (fun _ => ?_) (fun _ => ?_) | refine AC_cond rfl (fun _ => ?_) (fun _ => ?_))
        exact ends_int rfl rfl
    | cons t l => have := t.size_pos; simp only [sizes] at hl; omega
  | succ n ih =>
  intro hn l hl
  have ih := ih (by omega)
  have hlen := len_le_sizes l
  refine FC_intro hty Tryz.func122 rfl rfl rfl fun w0 => ?_
  repeat' (first | refine WL_p hty rfl rfl ?_ | refine WL_nil ?_ | refine AC_seq ?_ | refine AC_region ?_ | refine AC_block ?_ | refine AC_skip ?_ | refine AC_condT rfl ?_ | refine AC_condF rfl ?_ | refine AC_exit ?_ | refine AC_ret ?_ | refine WL_m rfl (m_idxN hty rfl rfl rfl (by assumption) rfl) ?_ | refine ends_bool rfl ?_ | refine WL_cmp rfl rfl rfl rfl (fun _ => ?_) (fun _ => ?_) | refine AC_cond rfl (fun _ => ?_) (fun _ => ?_))
  refine AC_for l.length (fun _ => True) (fun j => ⟨envOf [(0, sT l), (3, .int .i64 (gmx (l.take j))), (4, .int .i64 (j : Nat))], bkOf []⟩) (less_sub ⟨⟨_, rfl, .inl ⟨.refl _, rfl⟩⟩, ⟨_, rfl, .inl ⟨.refl _, rfl⟩⟩, ⟨_, rfl, .inl ⟨.refl _, rfl⟩⟩, trivial⟩ trivial) trivial ?_
  intro j hj _
  repeat' (first | refine WL_p hty rfl rfl ?_ | refine WL_nil ?_ | refine AC_seq ?_ | refine AC_region ?_ | refine AC_block ?_ | refine AC_skip ?_ | refine AC_condT rfl ?_ | refine AC_condF rfl ?_ | refine AC_exit ?_ | refine AC_ret ?_ | refine WL_m rfl (m_idxN hty rfl rfl rfl (by assumption) rfl) ?_ | refine ends_bool rfl ?_)
  refine WL_cmp rfl rfl rfl rfl (fun hc => ?_) (fun hc => ?_)
  · have hlt : j < l.length := by rw [rsT_length] at hc; omega
    obtain ⟨t, ht, hmem⟩ := get_of_lt hlt
    have rt := rsT_get ht
    have hts := size_le_sizes hmem
    have hs := t.size_eq
    have hk := ih t.kids (by omega)
    have hnx := gmx_next ht
    have hge := gmx_ge (l.take j)
    rw [gmx_one] at hnx
    repeat' (first | refine WL_m rfl (m_max rfl rfl rfl) ?_ | refine WL_call 0 rfl hk rfl rfl rfl ?_ | refine WL_p hty rfl rfl ?_ | refine WL_nil ?_ | refine AC_seq ?_ | refine AC_region ?_ | refine AC_block ?_ | refine AC_skip ?_ | refine AC_condT rfl ?_ | refine AC_condF rfl ?_ | refine AC_exit ?_ | refine AC_ret ?_ | refine WL_m rfl (m_idxN hty rfl rfl rfl (by assumption) rfl) ?_ | refine ends_bool rfl ?_ | refine WL_cmp rfl rfl rfl rfl (fun _ => ?_) (fun _ => ?_) | refine AC_cond rfl (fun _ => ?_) (fun _ => ?_))
    all_goals
      refine ⟨hlt, trivial, (less_sub ⟨⟨_, rfl, .inl ⟨.refl _, rfl⟩⟩, ⟨_, rfl, see_eq ?_ rfl⟩, ⟨_, rfl, see_eq ?_ rfl⟩, trivial⟩ trivial)⟩
      · rw [hnx]
        refine congrArg (AV.int .i64) ?_
        rename_i hq
        first
          | (rw [if_pos hq, ← gI_assoc, ← gI_assoc, gI_m1 hge]; rfl)
          | (rw [if_neg hq, ← gI_assoc, gI_m1 hge]; rfl)
      · exact congrArg (AV.int .i64) ((wrap_ok (by omega) (by omega)).trans (by omega))
  · obtain rfl : j = l.length := by rw [rsT_length] at hc; omega
    rw [List.take_length]
    repeat' (first | refine WL_p hty rfl rfl ?_ | refine WL_nil ?_ | refine AC_seq ?_ | refine AC_region ?_ | refine AC_block ?_ | refine AC_skip ?_ | refine AC_condT rfl ?_ | refine AC_condF rfl ?_ | refine AC_exit ?_ | refine AC_ret ?_ | refine WL_m rfl (m_idxN hty rfl rfl rfl (by assumption) rfl) ?_ | refine ends_bool rfl ?_ | refine WL_cmp rfl rfl rfl rfl (fun _ => ?_) (fun _ => ?_) | refine AC_cond rfl (fun _ => ?_) (fun _ => ?_))
    exact ends_int rfl rfl
theorem greatest_spec (l : List Tm) (h : sizes l ≤ 1048576) : FC Tryz.prog 122 [sT l] (.int .i64 (gmx l)) := greatest_all 1048576 (Nat.le_refl _) l h
theorem greatest1_spec (t : Tm) (h : t.size ≤ 1048576) : FC Tryz.prog 122 [.lst 3 [cT t] true] (.int .i64 (gmx [t])) := by
  have := (greatest_spec [t] (by simpa [sizes] using h)).args (xs := [.lst 3 [cT t] true]) (by show Wks _ [.lst 3 (rsT [t]) false]; rw [rs1]; exact .cons (.full _ _ _) .nil)
  exact this

set_option maxHeartbeats 1000000 in
theorem rlast_spec (l : List Ar) (h : sizesA l ≤ 1048576) : FC Tryz.prog 121 [sA l] (.int .i64 (gmx (termsA l))) := by
  have hlen := len_le_sizesA l
  refine FC_intro hty Tryz.func121 rfl rfl rfl fun w0 => ?_
  repeat' (first | refine WL_p hty rfl rfl ?_ | refine WL_nil ?_ | refine AC_seq ?_ | refine AC_region ?_ | refine AC_block ?_ | refine AC_skip ?_ | refine AC_condT rfl ?_ | refine AC_condF rfl ?_ | refine AC_exit ?_ | refine AC_ret ?_ | refine ends_bool rfl ?_ | refine WL_cmp rfl rfl rfl rfl (fun _ => ?_) (fun _ => ?_) | refine AC_cond rfl (fun _ => ?_) (fun _ => ?_))
  refine AC_for l.length (fun _ => True) (fun j => ⟨envOf [(0, sA l), (3, .int .i64 (gmx (termsA (l.take j)))), (4, .int .i64 (j : Nat))], bkOf []⟩) (less_sub ⟨⟨_, rfl, .inl ⟨.refl _, rfl⟩⟩, ⟨_, rfl, .inl ⟨.refl _, rfl⟩⟩, ⟨_, rfl, .inl ⟨.refl _, rfl⟩⟩, trivial⟩ trivial) trivial ?_
  intro j hj _
  repeat' (first | refine WL_p hty rfl rfl ?_ | refine WL_nil ?_ | refine AC_seq ?_ | refine AC_region ?_ | refine AC_block ?_ | refine AC_skip ?_ | refine AC_condT rfl ?_ | refine AC_condF rfl ?_ | refine AC_exit ?_ | refine AC_ret ?_ | refine ends_bool rfl ?_)
  refine WL_cmp rfl rfl rfl rfl (fun hc => ?_) (fun hc => ?_)
  · have hlt : j < l.length := by rw [rsA_length] at hc; omega
    obtain ⟨a, ha, hmem⟩ := get_of_lt hlt
    have ra := rsA_get ha
    have has := size_le_sizesA hmem
    unfold Ar.size at has
    have h1 := greatest1_spec a.typ (by omega)
    have h2 := greatest_spec a.dom (by omega)
    have h3 := greatest_spec a.idx (by omega)
    have hnx : gmx (termsA (l.take (j + 1))) = gI (gmx (termsA (l.take j))) (gI (gmx [a.typ]) (gI (gmx a.dom) (gmx a.idx))) := by
      unfold termsA
      rw [gmx_flat_next ha, show tmsA a = [a.typ] ++ (a.dom ++ a.idx) from rfl, gmx_append, gmx_append]
    repeat' (first | (refine AC_drawnE (id := 5) tbDocL121_5 rfl (by kernel_rfl) ?_) | refine WE_cons (.inl ⟨rfl, m_call 0 rfl h1 rfl rfl rfl⟩) ?_ | refine WE_cons (.inl ⟨rfl, m_call 0 rfl h2 rfl rfl rfl⟩) ?_ | refine WE_cons (.inl ⟨rfl, m_call 0 rfl h3 rfl rfl rfl⟩) ?_ | refine WE_cons (.inl ⟨rfl, m_max rfl rfl rfl⟩) ?_ | refine WE_cons (.inl ⟨rfl, stepE_ok hty rfl rfl⟩) ?_ | refine WE_cons (.inl ⟨rfl, m_idxN hty rfl rfl rfl (by assumption) rfl⟩) ?_ | refine WE_nil ⟨by kernel_rfl, ?_⟩ | refine WL_p hty rfl rfl ?_ | refine WL_nil ?_ | refine AC_seq ?_ | refine AC_region ?_ | refine AC_block ?_ | refine AC_skip ?_ | refine AC_condT rfl ?_ | refine AC_condF rfl ?_ | refine AC_exit ?_ | refine AC_ret ?_ | refine ends_bool rfl ?_ | refine WL_cmp rfl rfl rfl rfl (fun _ => ?_) (fun _ => ?_) | refine AC_cond rfl (fun _ => ?_) (fun _ => ?_))
    refine ⟨hlt, trivial, (less_sub ⟨⟨_, rfl, .inl ⟨.refl _, rfl⟩⟩, ⟨_, rfl, see_eq ?_ rfl⟩, ⟨_, rfl, see_eq ?_ rfl⟩, trivial⟩ trivial)⟩
    · rw [hnx]; rfl
    · exact congrArg (AV.int .i64) ((wrap_ok (by omega) (by omega)).trans (by omega))
  · obtain rfl : j = l.length := by rw [rsA_length] at hc; omega
    rw [List.take_length]
    repeat' (first | refine WL_p hty rfl rfl ?_ | refine WL_nil ?_ | refine AC_seq ?_ | refine AC_region ?_ | refine AC_block ?_ | refine AC_skip ?_ | refine AC_condT rfl ?_ | refine AC_condF rfl ?_ | refine AC_exit ?_ | refine AC_ret ?_ | refine ends_bool rfl ?_ | refine WL_cmp rfl rfl rfl rfl (fun _ => ?_) (fun _ => ?_) | refine AC_cond rfl (fun _ => ?_) (fun _ => ?_))
    exact ends_int rfl rfl

set_option maxHeartbeats 4000000 in
theorem rLast_spec (b : Bl) (h : b.size ≤ 1048576) : FC Tryz.prog 72 [aB b] (.int .i64 (namesB b)) := by
  unfold Bl.size at h
  have hsl := len_le_sizesS b.sorts
  have hcl := len_le_sizesC b.cons
  have hres : namesB b = gI (gmx (termsS b.sorts)) (gmx (termsC b.cons)) := by
    show gmx (termsS b.sorts ++ termsC b.cons) = _
    rw [gmx_append]
  rw [hres]
  refine FC_intro hty Tryz.func72 rfl rfl rfl fun w0 => ?_
  repeat' (first | refine WL_p hty rfl rfl ?_ | refine WL_nil ?_ | refine AC_seq ?_ | refine AC_region ?_ | refine AC_block ?_ | refine AC_skip ?_ | refine AC_condT rfl ?_ | refine AC_condF rfl ?_ | refine AC_exit ?_ | refine AC_ret ?_ | refine ends_bool rfl ?_ | refine WL_cmp rfl rfl rfl rfl (fun _ => ?_) (fun _ => ?_) | refine AC_cond rfl (fun _ => ?_) (fun _ => ?_))
  refine AC_for b.sorts.length (fun _ => True) (fun j => ⟨envOf [(1, .ptr 1 0), (3, .int .i64 (gmx (termsS (b.sorts.take j)))), (4, .int .i64 (j : Nat))], bkOf [(1, .box (cB b))]⟩) (less_sub ⟨⟨_, rfl, .inl ⟨.refl _, rfl⟩⟩, ⟨_, rfl, .inl ⟨.refl _, rfl⟩⟩, ⟨_, rfl, .inl ⟨.refl _, rfl⟩⟩, trivial⟩ ⟨⟨⟨_, rfl, .refl _⟩, rfl⟩, trivial⟩) trivial ?_
  intro j hj _
  repeat' (first | refine WL_p hty rfl rfl ?_ | refine WL_nil ?_ | refine AC_seq ?_ | refine AC_region ?_ | refine AC_block ?_ | refine AC_skip ?_ | refine AC_condT rfl ?_ | refine AC_condF rfl ?_ | refine AC_exit ?_ | refine AC_ret ?_ | refine ends_bool rfl ?_)
  refine WL_cmp rfl rfl rfl rfl (fun hc => ?_) (fun hc => ?_)
  · have hlt : j < b.sorts.length := by rw [rsS_length] at hc; omega
    obtain ⟨s, hs, hmem⟩ := get_of_lt hlt
    have rs := rsS_get hs
    have hss := size_le_sizesS hmem
    unfold Sr.size at hss
    have h1 := rlast_spec s.idx (by omega)
    have h2 := greatest1_spec s.decT (by omega)
    have hnx : gmx (termsS (b.sorts.take (j + 1))) = gI (gmx (termsS (b.sorts.take j))) (gI (gmx (termsA s.idx)) (gmx [s.decT])) := by
      unfold termsS
      rw [gmx_flat_next hs, show tmsS s = [s.decT] ++ termsA s.idx from rfl, gmx_append, gI_comm (gmx [s.decT])]
    repeat' (first | (refine AC_drawnE (id := 5) tbDocL72_5 rfl (by kernel_rfl) ?_) | refine WE_cons (.inl ⟨rfl, m_call 0 rfl h1 rfl rfl rfl⟩) ?_ | refine WE_cons (.inl ⟨rfl, m_call 0 rfl h2 rfl rfl rfl⟩) ?_ | refine WE_cons (.inl ⟨rfl, m_max rfl rfl rfl⟩) ?_ | refine WE_cons (.inl ⟨rfl, stepE_ok hty rfl rfl⟩) ?_ | refine WE_cons (.inl ⟨rfl, m_idxN hty rfl rfl rfl (by assumption) rfl⟩) ?_ | refine WE_nil ⟨by kernel_rfl, ?_⟩ | refine WL_p hty rfl rfl ?_ | refine WL_nil ?_ | refine AC_seq ?_ | refine AC_region ?_ | refine AC_block ?_ | refine AC_skip ?_ | refine AC_condT rfl ?_ | refine AC_condF rfl ?_ | refine AC_exit ?_ | refine AC_ret ?_ | refine ends_bool rfl ?_ | refine WL_cmp rfl rfl rfl rfl (fun _ => ?_) (fun _ => ?_) | refine AC_cond rfl (fun _ => ?_) (fun _ => ?_))
    refine ⟨hlt, trivial, (less_sub ⟨⟨_, rfl, .inl ⟨.refl _, rfl⟩⟩, ⟨_, rfl, see_eq ?_ rfl⟩, ⟨_, rfl, see_eq ?_ rfl⟩, trivial⟩ ⟨⟨⟨_, rfl, .refl _⟩, rfl⟩, trivial⟩)⟩
    · rw [hnx]; rfl
    · exact congrArg (AV.int .i64) ((wrap_ok (by omega) (by omega)).trans (by omega))
  · obtain rfl : j = b.sorts.length := by rw [rsS_length] at hc; omega
    rw [List.take_length]
    repeat' (first | refine WL_p hty rfl rfl ?_ | refine WL_nil ?_ | refine AC_seq ?_ | refine AC_region ?_ | refine AC_block ?_ | refine AC_skip ?_ | refine AC_condT rfl ?_ | refine AC_condF rfl ?_ | refine AC_exit ?_ | refine AC_ret ?_ | refine ends_bool rfl ?_ | refine WL_cmp rfl rfl rfl rfl (fun _ => ?_) (fun _ => ?_) | refine AC_cond rfl (fun _ => ?_) (fun _ => ?_))
    refine AC_for b.cons.length (fun _ => True) (fun j => ⟨envOf [(1, .ptr 1 0), (3, .int .i64 (gI (gmx (termsS b.sorts)) (gmx (termsC (b.cons.take j))))), (5, .int .i64 (j : Nat))], bkOf [(1, .box (cB b))]⟩) (less_sub ⟨⟨_, rfl, .inl ⟨.refl _, rfl⟩⟩, ⟨_, rfl, see_eq ?_ rfl⟩, ⟨_, rfl, .inl ⟨.refl _, rfl⟩⟩, trivial⟩ ⟨⟨⟨_, rfl, .refl _⟩, rfl⟩, trivial⟩) trivial ?_
    · exact congrArg (AV.int .i64) (gI_m1 (gmx_ge _)).symm
    intro j hj _
    repeat' (first | refine WL_p hty rfl rfl ?_ | refine WL_nil ?_ | refine AC_seq ?_ | refine AC_region ?_ | refine AC_block ?_ | refine AC_skip ?_ | refine AC_condT rfl ?_ | refine AC_condF rfl ?_ | refine AC_exit ?_ | refine AC_ret ?_ | refine ends_bool rfl ?_)
    refine WL_cmp rfl rfl rfl rfl (fun hc => ?_) (fun hc => ?_)
    · have hlt : j < b.cons.length := by rw [rsC_length] at hc; omega
      obtain ⟨c, hcc, hmem⟩ := get_of_lt hlt
      have rc := rsC_get hcc
      have hcs := size_le_sizesC hmem
      unfold Cn.size at hcs
      have h1 := rlast_spec c.args (by omega)
      have h2 := greatest1_spec c.dec (by omega)
      have h3 := greatest_spec c.idx (by omega)
      have hnx : gmx (termsC (b.cons.take (j + 1))) = gI (gmx (termsC (b.cons.take j))) (gI (gmx (termsA c.args)) (gI (gmx [c.dec]) (gmx c.idx))) := by
        unfold termsC
        rw [gmx_flat_next hcc, show tmsC c = [c.dec] ++ (c.idx ++ termsA c.args) from rfl, gmx_append, gmx_append, ← gI_assoc (gmx [c.dec]), gI_comm (gI (gmx [c.dec]) (gmx c.idx))]
      repeat' (first | (refine AC_drawnE (id := 9) tbDocL72_9 rfl (by kernel_rfl) ?_) | refine WE_cons (.inl ⟨rfl, m_call 0 rfl h1 rfl rfl rfl⟩) ?_ | refine WE_cons (.inl ⟨rfl, m_call 0 rfl h2 rfl rfl rfl⟩) ?_ | refine WE_cons (.inl ⟨rfl, m_call 0 rfl h3 rfl rfl rfl⟩) ?_ | refine WE_cons (.inl ⟨rfl, m_max rfl rfl rfl⟩) ?_ | refine WE_cons (.inl ⟨rfl, stepE_ok hty rfl rfl⟩) ?_ | refine WE_cons (.inl ⟨rfl, m_idxN hty rfl rfl rfl (by assumption) rfl⟩) ?_ | refine WE_nil ⟨by kernel_rfl, ?_⟩ | refine WL_p hty rfl rfl ?_ | refine WL_nil ?_ | refine AC_seq ?_ | refine AC_region ?_ | refine AC_block ?_ | refine AC_skip ?_ | refine AC_condT rfl ?_ | refine AC_condF rfl ?_ | refine AC_exit ?_ | refine AC_ret ?_ | refine ends_bool rfl ?_ | refine WL_cmp rfl rfl rfl rfl (fun _ => ?_) (fun _ => ?_) | refine AC_cond rfl (fun _ => ?_) (fun _ => ?_))
      refine ⟨hlt, trivial, (less_sub ⟨⟨_, rfl, .inl ⟨.refl _, rfl⟩⟩, ⟨_, rfl, see_eq ?_ rfl⟩, ⟨_, rfl, see_eq ?_ rfl⟩, trivial⟩ ⟨⟨⟨_, rfl, .refl _⟩, rfl⟩, trivial⟩)⟩
      · rw [hnx, ← gI_assoc]; rfl
      · exact congrArg (AV.int .i64) ((wrap_ok (by omega) (by omega)).trans (by omega))
    · obtain rfl : j = b.cons.length := by rw [rsC_length] at hc; omega
      rw [List.take_length]
      repeat' (first | refine WL_p hty rfl rfl ?_ | refine WL_nil ?_ | refine AC_seq ?_ | refine AC_region ?_ | refine AC_block ?_ | refine AC_skip ?_ | refine AC_condT rfl ?_ | refine AC_condF rfl ?_ | refine AC_exit ?_ | refine AC_ret ?_ | refine ends_bool rfl ?_ | refine WL_cmp rfl rfl rfl rfl (fun _ => ?_) (fun _ => ?_) | refine AC_cond rfl (fun _ => ?_) (fun _ => ?_))
      exact ends_int rfl rfl

end Go.Proofs.YtlonpgdnmngnmaaGreat

/-
  The document's answer: whether a row of entries is right: just if the program says so.
-/
namespace Go.Proofs.YtlonpgdnmngnmaaGreat
set_option linter.unusedSimpArgs false
set_option linter.unusedVariables false
open Go.Aw Go.RowKit
def tbDocE40_7 : List (Nat × List Nat) := [(0, []), (1, [0]), (2, [0, 1]), (3, [0, 1, 2]), (4, [0, 1]), (5, [0, 1, 4]), (6, [0, 1, 2, 3, 4, 5]), (7, [0, 1, 2, 3, 4, 5, 6]), (8, [0, 1, 2, 3, 4, 5, 6, 7]), (9, [0, 1, 2, 3, 4, 5, 6, 7, 8]), (10, [0, 1, 2, 3, 4, 5, 6, 7, 8, 9]), (11, [0, 1, 2, 3, 4, 5, 6, 7, 8, 9, 10]), (12, [0, 1, 2, 3, 4, 5, 6, 7, 8]), (13, [0, 1, 2, 3, 4, 5, 6, 7, 8, 12]), (14, [0, 1, 2, 3, 4, 5, 6, 7, 8]), (15, [0, 1, 2, 3, 4, 5, 6, 7, 8, 14]), (16, [0, 1, 2, 3, 4, 5, 6, 7, 8, 9, 10, 11, 14, 15]), (17, [0, 1, 2, 3, 4, 5, 6, 7, 8, 9, 10, 11, 12, 13, 14, 15, 16]), (18, [0, 1, 2, 3, 4, 5, 6, 7, 8, 9, 10, 11, 12, 13, 14, 15, 16, 17]), (19, [0, 1, 2, 3, 4, 5, 6, 7, 8, 9, 10, 11, 12, 13, 14, 15, 16, 17, 18]), (20, [0, 1, 2, 3, 4, 5, 6, 7, 8, 9, 10, 11, 12, 13, 14, 15, 16, 17, 18, 19])]
def tbDocE39_4 : List (Nat × List Nat) := [(0, []), (1, []), (2, [0, 1]), (3, [0, 1, 2]), (4, [0, 1, 2, 3]), (5, [0, 1, 2, 3, 4]), (6, [0, 1, 2, 3, 4, 5]), (7, [0, 1, 2, 3, 4, 5, 6]), (8, [0, 1, 2, 3, 4, 5, 6]), (9, [0, 1, 2, 3, 4, 5, 6, 7, 8]), (10, [0, 1, 2, 3, 4, 5, 6, 7, 8, 9]), (11, [0, 1, 2, 3, 4, 5, 6, 7, 8, 9, 10]), (12, [0, 1, 2, 3, 4, 5, 6]), (13, [0, 1, 2, 3, 4, 5, 6]), (14, [0, 1, 2, 3, 4, 5, 6, 12, 13]), (15, [0, 1, 2, 3, 4, 5, 6, 12, 13, 14]), (16, [0, 1, 2, 3, 4, 5, 6, 12, 13, 14, 15]), (17, [0, 1, 2, 3, 4, 5, 6, 7, 8, 9, 10, 11, 12, 13, 14, 15, 16]), (18, [0, 1, 2, 3, 4, 5, 6, 7, 8, 9, 10, 11, 12, 13, 14, 15, 16, 17])]
def tbDocE16_7 : List (Nat × List Nat) := [(0, []), (1, []), (2, [0, 1]), (3, [0, 1, 2]), (4, []), (5, []), (6, [5]), (7, [0, 1, 2, 3, 4, 5, 6]), (8, [0, 1, 2, 3, 4, 5, 6, 7]), (9, [0, 1, 2, 3, 4, 5, 6, 7, 8]), (10, [0, 1, 2, 3, 4, 5, 6, 7, 8, 9]), (11, [0, 1, 2, 3, 4, 5, 6, 7, 8, 9, 10]), (12, [0, 1, 2, 3, 4, 5, 6, 7, 8, 9, 10, 11]), (13, [0, 1, 2, 3, 4, 5, 6, 7, 8, 9, 10, 11, 12]), (14, [0, 1, 2, 3, 4, 5, 6, 7, 8, 9, 10, 11, 12]), (15, [0, 1, 2, 3, 4, 5, 6, 7, 8, 9, 10, 11, 12, 13, 14]), (16, [0, 1, 2, 3, 4, 5, 6, 7, 8, 9, 10, 11, 12, 13, 14, 15]), (17, [0, 1, 2, 3, 4, 5, 6, 7, 8, 9, 10, 11, 12, 13, 14, 15, 16]), (18, [0, 1, 2, 3, 4, 5, 6, 7, 8, 9, 10, 11, 12]), (19, [0, 1, 2, 3, 4, 5, 6, 7, 8, 9, 10, 11, 12]), (20, [0, 1, 2, 3, 4, 5, 6, 7, 8, 9, 10, 11, 12, 18, 19]), (21, [0, 1, 2, 3, 4, 5, 6, 7, 8, 9, 10, 11, 12, 18, 19, 20]), (22, [0, 1, 2, 3, 4, 5, 6, 7, 8, 9, 10, 11, 12, 18, 19, 20, 21]), (23, [0, 1, 2, 3, 4, 5, 6, 7, 8, 9, 10, 11, 12, 13, 14, 15, 16, 17, 18, 19, 20, 21, 22]), (24, [0, 1, 2, 3, 4, 5, 6, 7, 8, 9, 10, 11, 12, 13, 14, 15, 16, 17, 18, 19, 20, 21, 22, 23]), (25, [0, 1, 2, 3, 4, 5, 6, 7, 8, 9, 10, 11, 12, 13, 14, 15, 16, 17, 18, 19, 20, 21, 22, 23, 24]), (26, [0, 1, 2, 3, 4, 5, 6, 7, 8, 9, 10, 11, 12, 13, 14, 15, 16, 17, 18, 19, 20, 21, 22, 23, 24, 25])]
attribute [local irreducible] WL AC WD WE MStep OkOp

theorem in14_spec (n lo hi : Int) : FC Tryz.prog 68 [.int .i64 n, .int .i64 lo, .int .i64 hi] (.bool (inR n lo hi)) := by
  refine FC_intro hty Tryz.func68 rfl rfl rfl fun w0 => ?_
  repeat' (first | refine WL_p hty rfl rfl ?_ | refine WL_nil ?_ | refine AC_seq ?_ | refine AC_region ?_ | refine AC_skip ?_ | refine AC_ret ?_ | refine WL_ung rfl rfl ?_ | refine WL_offT rfl rfl rfl ?_ | refine WL_offF rfl rfl rfl ?_ | refine WL_offU rfl rfl rfl ?_ | refine ends_bool rfl ?_ | refine WL_cmp rfl rfl rfl rfl (fun _ => ?_) (fun _ => ?_))
  all_goals (simp_all [inR] <;> (try intro) <;> omega)
theorem kterm_z (t : Tm) (h : t.size ≤ 1048576) (f : Bool) : FC Tryz.prog 14 [aT t, .agg [.int .i64 0, .int .i64 0, .lst 3 [] f]] (.bool (decide (t = zT))) := by
  have := (kterm_spec t zT h).args (xs := [aT t, .agg [.int .i64 0, .int .i64 0, .lst 3 [] f]]) (.cons (.refl _) (.cons (.agg (.cons (.refl _) (.cons (.refl _) (.cons (.nilF _ _ _) .nil)))) .nil))
  exact this
theorem none14_spec (t : Tm) (h : t.size ≤ 1048576) : FC Tryz.prog 70 [aT t] (.bool (decide (t = zT))) := by
  refine FC_intro hty Tryz.func70 rfl rfl rfl fun w0 => ?_
  repeat' (first | refine WL_call 0 rfl (kterm_z t h true) rfl rfl rfl ?_ | refine WL_p hty rfl rfl ?_ | refine WL_nil ?_ | refine AC_seq ?_ | refine AC_region ?_ | refine AC_skip ?_ | refine AC_ret ?_ | refine ends_bool rfl ?_)
  rfl
theorem kblock_z (b : Bl) (h : b.size ≤ 1048576) (f g : Bool) : FC Tryz.prog 41 [aB b, .agg [.lst 6 [] f, .lst 6 [] g, .int .i64 0]] (.bool (decide (b = zB))) := by
  have := (kblock_spec b zB h).args (xs := [aB b, .agg [.lst 6 [] f, .lst 6 [] g, .int .i64 0]]) (.cons (.refl _) (.cons (.agg (.cons (.nilF _ _ _) (.cons (.nilF _ _ _) (.cons (.refl _) .nil)))) .nil))
  exact this

def entryD (e : En) (i : Int) (first : Bool) : Bool := rightE e i && (decide (e.kind < 3) || (!first || knownB e.block e.base))

set_option maxHeartbeats 16000000 in
theorem entry_spec (e : En) (i : Int) (first : Bool) (hs : e.size ≤ 1048576) (hi : 0 ≤ i) : FC Tryz.prog 40 [aE e, .int .i64 i, .bool first] (.bool (entryD e i first)) := by
  have hs' : e.size = e.typ.size + e.body.size + e.block.size := rfl
  have h1 := scope_spec e.typ 0 i (by omega)
  have h2 := scope_spec e.body 0 i (by omega)
  have h3 := none14_spec e.body (by omega)
  have h4 := kblock_z e.block (by omega) true true
  have h5 := rposit_spec e.block e.base (by omega)
  have h6 := rLast_spec e.block (by omega)
  have h7 := rcount_spec e.block (by omega)
  have h8 := in14_spec e.kind 1 6
  have f3 := rformer_spec e.block e.base e.which (by omega)
  have f4 := rdecoder_spec e.block e.base e.which (by omega)
  have f5 := rconstructor_spec e.block e.base e.which (by omega)
  have f6 := reliminator_spec e.block e.base e.which (by omega)
  have hcn := countN_le e.block (by omega)
  have hre : rightE e i = (scopeT e.typ 0 i && (if e.kind = 1 then decide (e.base = 0) && (decide (e.which = 0) && (decide (e.block = zB) && decide (e.body = zT)))
    else if e.kind = 2 then decide (e.base = 0) && (decide (e.which = 0) && (decide (e.block = zB) && scopeT e.body 0 i))
    else if e.kind = 3 ∨ e.kind = 4 ∨ e.kind = 5 ∨ e.kind = 6 then decide (e.body = zT) && (decide (0 ≤ e.base) && decide (numberI e = i)) else false)) := rfl
  by_cases hk : inR e.kind 1 6 = true
  case neg =>
    have hk' := Bool.eq_false_iff.2 hk
    rw [hk'] at h8
    have hz : entryD e i first = false := by
      unfold entryD
      rw [hre]
      rw [inR_not] at hk'
      rw [if_neg (by omega), if_neg (by omega), if_neg (by omega)]; simp
    rw [hz]
    refine FC_intro hty Tryz.func40 rfl rfl rfl fun w0 => ?_
    repeat' (first | refine WL_call 0 rfl h8 rfl rfl rfl ?_ | refine WL_p hty rfl rfl ?_ | refine WL_nil ?_ | refine AC_seq ?_ | refine AC_region ?_ | refine AC_block ?_ | refine AC_skip ?_ | refine AC_condT rfl ?_ | refine AC_condF rfl ?_ | refine AC_ret ?_ | refine WL_ung rfl rfl ?_ | refine WL_offT rfl rfl rfl ?_ | refine WL_offF rfl rfl rfl ?_ | refine WL_offU rfl rfl rfl ?_ | refine ends_bool rfl ?_ | refine WL_cmp rfl rfl rfl rfl (fun _ => ?_) (fun _ => ?_) | refine AC_cond rfl (fun _ => ?_) (fun _ => ?_))
    rfl
  rw [hk] at h8
  rw [inR_iff] at hk
  by_cases k3 : e.kind < 3
  · have hen : entryD e i first = rightE e i := by unfold entryD; rw [decide_eq_true k3]; simp
    rw [hen, hre]
    by_cases k1 : e.kind = 1
    · have k2 : ¬ e.kind = 2 := by omega
      rw [if_pos k1]
      refine FC_intro hty Tryz.func40 rfl rfl rfl fun w0 => ?_
      repeat' (first | exact absurd (by assumption) k2 | exact absurd k2 ‹_› | exact absurd k1 ‹_› | refine WL_call 0 rfl h8 rfl rfl rfl ?_ | refine WL_callB rfl h1 rfl (fun _ => ?_) (fun _ => ?_) | refine WL_callB rfl h3 rfl (fun _ => ?_) (fun _ => ?_) | refine WL_callB rfl h4 rfl (fun _ => ?_) (fun _ => ?_) | refine WL_p hty rfl rfl ?_ | refine WL_nil ?_ | refine AC_seq ?_ | refine AC_region ?_ | refine AC_block ?_ | refine AC_skip ?_ | refine AC_condT rfl ?_ | refine AC_condF rfl ?_ | refine AC_ret ?_ | refine WL_ung rfl rfl ?_ | refine WL_offT rfl rfl rfl ?_ | refine WL_offF rfl rfl rfl ?_ | refine WL_offU rfl rfl rfl ?_ | refine ends_bool rfl ?_ | refine WL_cmp rfl rfl rfl rfl (fun _ => ?_) (fun _ => ?_) | refine AC_cond rfl (fun _ => ?_) (fun _ => ?_))
      all_goals simp [*]
    · have k2 : e.kind = 2 := by omega
      rw [if_neg k1, if_pos k2]
      refine FC_intro hty Tryz.func40 rfl rfl rfl fun w0 => ?_
      repeat' (first | exact absurd (by assumption) k1 | exact absurd k2 ‹_› | refine WL_call 0 rfl h8 rfl rfl rfl ?_ | refine WL_callB rfl h1 rfl (fun _ => ?_) (fun _ => ?_) | refine WL_callB rfl h2 rfl (fun _ => ?_) (fun _ => ?_) | refine WL_callB rfl h4 rfl (fun _ => ?_) (fun _ => ?_) | refine WL_p hty rfl rfl ?_ | refine WL_nil ?_ | refine AC_seq ?_ | refine AC_region ?_ | refine AC_block ?_ | refine AC_skip ?_ | refine AC_condT rfl ?_ | refine AC_condF rfl ?_ | refine AC_ret ?_ | refine WL_ung rfl rfl ?_ | refine WL_offT rfl rfl rfl ?_ | refine WL_offF rfl rfl rfl ?_ | refine WL_offU rfl rfl rfl ?_ | refine ends_bool rfl ?_ | refine WL_cmp rfl rfl rfl rfl (fun _ => ?_) (fun _ => ?_) | refine AC_cond rfl (fun _ => ?_) (fun _ => ?_))
      all_goals simp [*]
  · have k1 : ¬ e.kind = 1 := by omega
    have k2 : ¬ e.kind = 2 := by omega
    have hen : entryD e i first = ((scopeT e.typ 0 i && decide (e.body = zT)) && ((!first || (decide (positI e.block e.base = 0) && decide (namesB e.block < e.base + (countN e.block : Nat)))) && decide (numberI e = i))) := by
      unfold entryD knownB
      rw [hre, if_neg k1, if_neg k2, if_pos (by omega), decide_eq_false k3]
      by_cases hn : numberI e = i
      · have := (number_base hn hi).1
        rw [decide_eq_true hn, decide_eq_true this]; simp [Bool.and_assoc]
      · rw [decide_eq_false hn]; simp
    rw [hen]
    have hnum : numberI e = if e.kind = 3 then formerI e.block e.base e.which else if e.kind = 4 then decoderI e.block e.base e.which else if e.kind = 5 then constructorI e.block e.base e.which else eliminatorI e.block e.base e.which := rfl
    have hfin : ∀ w0 : B0, ∀ s : AS, True := fun _ _ => trivial
    by_cases hpo : positI e.block e.base = 0
    · have hba := positI_base hpo
      have hw : IntKind.i64.wrap (e.base + (countN e.block : Nat)) = e.base + (countN e.block : Nat) := wrap_ok (by omega) (by omega)
      cases first
      all_goals
        refine FC_intro hty Tryz.func40 rfl rfl rfl fun w0 => ?_
        repeat' (first | exact absurd (by assumption) k1 | exact absurd (by assumption) k2 | exact absurd k1 ‹_› | exact absurd k2 ‹_› | exact absurd hpo ‹_› | (exfalso; omega) | refine WL_call 0 rfl h8 rfl rfl rfl ?_ | refine WL_callB rfl h1 rfl (fun _ => ?_) (fun _ => ?_) | refine WL_callB rfl h3 rfl (fun _ => ?_) (fun _ => ?_) | (refine AC_regK (id := 7) ?_; refine AC_less (less_sub (l := [(1, _), (2, _), (3, _)]) (bl := [(3, _)]) ⟨⟨_, rfl, .inl ⟨.refl _, rfl⟩⟩, ⟨_, rfl, .inl ⟨.refl _, rfl⟩⟩, ⟨_, rfl, .inl ⟨.refl _, rfl⟩⟩, trivial⟩ ⟨⟨⟨_, rfl, .refl _⟩, rfl⟩, trivial⟩) ?_; refine AC_drawnE (id := 7) tbDocE40_7 rfl (by kernel_rfl) ?_) | refine WE_call 0 rfl h5 rfl rfl rfl ?_ | refine WE_call 0 rfl h6 rfl rfl rfl ?_ | refine WE_call 0 rfl h7 rfl rfl rfl ?_ | refine WL_call 0 rfl f3 rfl rfl rfl ?_ | refine WL_call 0 rfl f4 rfl rfl rfl ?_ | refine WL_call 0 rfl f5 rfl rfl rfl ?_ | refine WL_call 0 rfl f6 rfl rfl rfl ?_ | refine WE_cons (.inl ⟨rfl, stepE_ok hty rfl rfl⟩) ?_ | refine WE_ung rfl rfl ?_ | refine WE_offT rfl rfl rfl ?_ | refine WE_offF rfl rfl rfl ?_ | refine WE_offU rfl rfl rfl ?_ | refine WE_nil ⟨by kernel_rfl, ?_⟩ | refine WL_p hty rfl rfl ?_ | refine WL_nil ?_ | refine AC_seq ?_ | refine AC_region ?_ | refine AC_block ?_ | refine AC_skip ?_ | refine AC_condT rfl ?_ | refine AC_condF rfl ?_ | refine AC_ret ?_ | refine WL_ung rfl rfl ?_ | refine WL_offT rfl rfl rfl ?_ | refine WL_offF rfl rfl rfl ?_ | refine WL_offU rfl rfl rfl ?_ | refine ends_bool rfl ?_ | refine WL_cmp rfl rfl rfl rfl (fun _ => ?_) (fun _ => ?_) | refine AC_cond rfl (fun _ => ?_) (fun _ => ?_) | refine WE_cmp rfl rfl rfl rfl (fun _ => ?_) (fun _ => ?_))
        all_goals
          rw [hnum]
          try rw [hw] at *
          simp [*]
          try omega
    · cases first
      all_goals
        refine FC_intro hty Tryz.func40 rfl rfl rfl fun w0 => ?_
        repeat' (first | exact absurd (by assumption) k1 | exact absurd (by assumption) k2 | exact absurd k1 ‹_› | exact absurd k2 ‹_› | exact absurd (by assumption) hpo | (exfalso; omega) | refine WL_call 0 rfl h8 rfl rfl rfl ?_ | refine WL_callB rfl h1 rfl (fun _ => ?_) (fun _ => ?_) | refine WL_callB rfl h3 rfl (fun _ => ?_) (fun _ => ?_) | (refine AC_regK (id := 7) ?_; refine AC_less (less_sub (l := [(1, _), (2, _), (3, _)]) (bl := [(3, _)]) ⟨⟨_, rfl, .inl ⟨.refl _, rfl⟩⟩, ⟨_, rfl, .inl ⟨.refl _, rfl⟩⟩, ⟨_, rfl, .inl ⟨.refl _, rfl⟩⟩, trivial⟩ ⟨⟨⟨_, rfl, .refl _⟩, rfl⟩, trivial⟩) ?_; refine AC_drawnE (id := 7) tbDocE40_7 rfl (by kernel_rfl) ?_) | refine WE_call 0 rfl h5 rfl rfl rfl ?_ | refine WL_call 0 rfl f3 rfl rfl rfl ?_ | refine WL_call 0 rfl f4 rfl rfl rfl ?_ | refine WL_call 0 rfl f5 rfl rfl rfl ?_ | refine WL_call 0 rfl f6 rfl rfl rfl ?_ | refine WE_cons (.inl ⟨rfl, stepE_ok hty rfl rfl⟩) ?_ | refine WE_ung rfl rfl ?_ | refine WE_offT rfl rfl rfl ?_ | refine WE_offF rfl rfl rfl ?_ | refine WE_offU rfl rfl rfl ?_ | refine WE_nil ⟨by kernel_rfl, ?_⟩ | refine WL_p hty rfl rfl ?_ | refine WL_nil ?_ | refine AC_seq ?_ | refine AC_region ?_ | refine AC_block ?_ | refine AC_skip ?_ | refine AC_condT rfl ?_ | refine AC_condF rfl ?_ | refine AC_ret ?_ | refine WL_ung rfl rfl ?_ | refine WL_offT rfl rfl rfl ?_ | refine WL_offF rfl rfl rfl ?_ | refine WL_offU rfl rfl rfl ?_ | refine ends_bool rfl ?_ | refine WL_cmp rfl rfl rfl rfl (fun _ => ?_) (fun _ => ?_) | refine AC_cond rfl (fun _ => ?_) (fun _ => ?_) | refine WE_cmp rfl rfl rfl rfl (fun _ => ?_) (fun _ => ?_))
        all_goals
          rw [hnum]
          simp [*]
          try omega

theorem idxF_at {α : Type} {p : α → Bool} : ∀ {l : List α}, 0 ≤ idxF p l → ∀ a, l[(idxF p l).toNat]? = some a → p a = true
  | [], h, _, _ => by simp [idxF] at h
  | x :: l, h, a, ha => by
    simp only [idxF] at h ha
    by_cases hp : p x = true
    · rw [if_pos hp] at ha
      obtain rfl := Option.some.inj (show some x = some a from ha)
      exact hp
    · rw [if_neg hp] at h ha
      by_cases h2 : idxF p l < 0
      · rw [if_pos h2] at h; omega
      · rw [if_neg h2, show (idxF p l + 1).toNat = (idxF p l).toNat + 1 by omega, List.getElem?_cons_succ] at ha
        exact idxF_at (by omega) a ha

/-! the first one of the same block -/
def sameB (e f : En) : Bool := decide (2 < f.kind) && decide (f.base = e.base)
def elderI (l : List En) (i : Nat) (e : En) : Int := if 2 < e.kind then idxF (sameB e) (l.take i) else -1

set_option maxHeartbeats 4000000 in
theorem elder_spec (l : List En) (i : Nat) (e : En) (hl : sizesE l ≤ 1048576) (he : l[i]? = some e) : FC Tryz.prog 39 [sE l, .int .i64 (i : Nat)] (.int .i64 (elderI l i e)) := by
  have hlen := len_le_sizesE l
  have hil := (List.getElem?_eq_some_iff.1 he).1
  have ri := rsE_get he
  by_cases hk : e.kind > 2
  case neg =>
    have hz : elderI l i e = -1 := by unfold elderI; rw [if_neg hk]
    rw [hz]
    refine FC_intro hty Tryz.func39 rfl rfl rfl fun w0 => ?_
    repeat' (first | refine WL_p hty rfl rfl ?_ | refine WL_nil ?_ | refine AC_seq ?_ | refine AC_region ?_ | refine AC_block ?_ | refine AC_skip ?_ | refine AC_condT rfl ?_ | refine AC_condF rfl ?_ | refine AC_exit ?_ | refine AC_ret ?_ | refine WL_ung rfl rfl ?_ | refine WL_offT rfl rfl rfl ?_ | refine WL_offF rfl rfl rfl ?_ | refine WL_offU rfl rfl rfl ?_ | refine WL_m rfl (m_idxN hty rfl rfl rfl (by assumption) rfl) ?_ | refine ends_bool rfl ?_ | refine WL_cmp rfl rfl rfl rfl (fun _ => ?_) (fun _ => ?_) | refine AC_cond rfl (fun _ => ?_) (fun _ => ?_))
    refine AC_for 0 (fun _ => True) (fun j => ⟨envOf [(0, sE l), (1, .int .i64 (i : Nat)), (5, .int .i64 (j : Nat))], bkOf []⟩) (less_sub ⟨⟨_, rfl, .inl ⟨.refl _, rfl⟩⟩, ⟨_, rfl, .inl ⟨.refl _, rfl⟩⟩, ⟨_, rfl, .inl ⟨.refl _, rfl⟩⟩, trivial⟩ trivial) trivial ?_
    intro j hj _
    obtain rfl : j = 0 := by omega
    repeat' (first | exact absurd (by assumption) hk | refine WL_m rfl (m_idxN (i := i) hty rfl rfl rfl ri rfl) ?_ | refine WL_p hty rfl rfl ?_ | refine WL_nil ?_ | refine AC_seq ?_ | refine AC_region ?_ | refine AC_block ?_ | refine AC_skip ?_ | refine AC_condT rfl ?_ | refine AC_condF rfl ?_ | refine AC_exit ?_ | refine AC_ret ?_ | refine WL_ung rfl rfl ?_ | refine WL_offT rfl rfl rfl ?_ | refine WL_offF rfl rfl rfl ?_ | refine WL_offU rfl rfl rfl ?_ | refine WL_m rfl (m_idxN hty rfl rfl rfl (by assumption) rfl) ?_ | refine ends_bool rfl ?_ | refine WL_cmp rfl rfl rfl rfl (fun _ => ?_) (fun _ => ?_) | refine AC_cond rfl (fun _ => ?_) (fun _ => ?_))
    all_goals exact ends_int rfl rfl
  have hz : elderI l i e = idxF (sameB e) (l.take i) := by unfold elderI; rw [if_pos hk]
  rw [hz]
  refine FC_intro hty Tryz.func39 rfl rfl rfl fun w0 => ?_
  repeat' (first | refine WL_p hty rfl rfl ?_ | refine WL_nil ?_ | refine AC_seq ?_ | refine AC_region ?_ | refine AC_block ?_ | refine AC_skip ?_ | refine AC_condT rfl ?_ | refine AC_condF rfl ?_ | refine AC_exit ?_ | refine AC_ret ?_ | refine WL_ung rfl rfl ?_ | refine WL_offT rfl rfl rfl ?_ | refine WL_offF rfl rfl rfl ?_ | refine WL_offU rfl rfl rfl ?_ | refine WL_m rfl (m_idxN hty rfl rfl rfl (by assumption) rfl) ?_ | refine ends_bool rfl ?_ | refine WL_cmp rfl rfl rfl rfl (fun _ => ?_) (fun _ => ?_) | refine AC_cond rfl (fun _ => ?_) (fun _ => ?_))
  refine AC_for i (fun j => ((l.take i).take j).any (sameB e) = false) (fun j => ⟨envOf [(0, sE l), (1, .int .i64 (i : Nat)), (5, .int .i64 (j : Nat))], bkOf []⟩) (less_sub ⟨⟨_, rfl, .inl ⟨.refl _, rfl⟩⟩, ⟨_, rfl, .inl ⟨.refl _, rfl⟩⟩, ⟨_, rfl, .inl ⟨.refl _, rfl⟩⟩, trivial⟩ trivial) rfl ?_
  intro j hj hI
  repeat' (first | refine WL_p hty rfl rfl ?_ | refine WL_nil ?_ | refine AC_seq ?_ | refine AC_region ?_ | refine AC_block ?_ | refine AC_skip ?_ | refine AC_condT rfl ?_ | refine AC_condF rfl ?_ | refine AC_exit ?_ | refine AC_ret ?_ | refine WL_ung rfl rfl ?_ | refine WL_offT rfl rfl rfl ?_ | refine WL_offF rfl rfl rfl ?_ | refine WL_offU rfl rfl rfl ?_ | refine WL_m rfl (m_idxN hty rfl rfl rfl (by assumption) rfl) ?_ | refine ends_bool rfl ?_)
  refine WL_cmp rfl rfl rfl rfl (fun hc => ?_) (fun hc => ?_)
  · have hlt : j < i := by omega
    obtain ⟨f, hf, _⟩ := get_of_lt (show j < l.length by omega)
    have hf2 : (l.take i)[j]? = some f := by rw [List.getElem?_take, if_pos hlt]; exact hf
    have rf := rsE_get hf
    have hat := any_take_succ (p := sameB e) hf2
    repeat' (first | exact absurd hk ‹_› | refine WL_m rfl (m_idxN (i := i) hty rfl rfl rfl ri rfl) ?_ | (refine AC_drawnE (id := 4) tbDocE39_4 rfl (by kernel_rfl) ?_) | refine WE_m rfl (m_idxN (i := i) hty rfl rfl rfl ri rfl) ?_ | refine WE_m rfl (m_idxN (i := j) hty rfl rfl rfl rf rfl) ?_ | refine WE_cons (.inl ⟨rfl, stepE_ok hty rfl rfl⟩) ?_ | refine WE_cons (.inl ⟨rfl, m_idxN hty rfl rfl rfl (by assumption) rfl⟩) ?_ | refine WE_ung rfl rfl ?_ | refine WE_offT rfl rfl rfl ?_ | refine WE_offF rfl rfl rfl ?_ | refine WE_offU rfl rfl rfl ?_ | refine WE_nil ⟨by kernel_rfl, ?_⟩ | refine WL_p hty rfl rfl ?_ | refine WL_nil ?_ | refine AC_seq ?_ | refine AC_region ?_ | refine AC_block ?_ | refine AC_skip ?_ | refine AC_condT rfl ?_ | refine AC_condF rfl ?_ | refine AC_exit ?_ | refine AC_ret ?_ | refine WL_ung rfl rfl ?_ | refine WL_offT rfl rfl rfl ?_ | refine WL_offF rfl rfl rfl ?_ | refine WL_offU rfl rfl rfl ?_ | refine WL_m rfl (m_idxN hty rfl rfl rfl (by assumption) rfl) ?_ | refine ends_bool rfl ?_ | refine WL_cmp rfl rfl rfl rfl (fun _ => ?_) (fun _ => ?_) | refine AC_cond rfl (fun _ => ?_) (fun _ => ?_) | refine WE_cmp rfl rfl rfl rfl (fun _ => ?_) (fun _ => ?_))
    all_goals first
      | (refine ends_int rfl ?_
         exact (idxF_hit (p := sameB e) (by simp [sameB]; omega) hI hf2).symm)
      | (refine ⟨hlt, ?_, (less_sub ⟨⟨_, rfl, .inl ⟨.refl _, rfl⟩⟩, ⟨_, rfl, .inl ⟨.refl _, rfl⟩⟩, ⟨_, rfl, see_eq ?_ rfl⟩, trivial⟩ trivial)⟩
         · rw [hat, hI]; simp [sameB]; omega
         · exact congrArg (AV.int .i64) ((wrap_ok (by omega) (by omega)).trans (by omega)))
  · obtain rfl : j = i := by omega
    rw [List.take_of_length_le (l := l.take j) (by rw [List.length_take]; omega)] at hI
    repeat' (first | refine WL_p hty rfl rfl ?_ | refine WL_nil ?_ | refine AC_seq ?_ | refine AC_region ?_ | refine AC_block ?_ | refine AC_skip ?_ | refine AC_condT rfl ?_ | refine AC_condF rfl ?_ | refine AC_exit ?_ | refine AC_ret ?_ | refine WL_ung rfl rfl ?_ | refine WL_offT rfl rfl rfl ?_ | refine WL_offF rfl rfl rfl ?_ | refine WL_offU rfl rfl rfl ?_ | refine WL_m rfl (m_idxN hty rfl rfl rfl (by assumption) rfl) ?_ | refine ends_bool rfl ?_ | refine WL_cmp rfl rfl rfl rfl (fun _ => ?_) (fun _ => ?_) | refine AC_cond rfl (fun _ => ?_) (fun _ => ?_))
    refine ends_int rfl ?_
    exact (idxF_none hI).symm

/-! the map and the first one -/
theorem seenE_none {l : List En} {x : Int} (h : ∀ f, f ∈ l → ¬ (2 < f.kind ∧ f.base = x)) : seenE l x = none := by
  have : ∀ (l : List En) (g : Int → Option Bl), g x = none → (∀ f, f ∈ l → ¬ (2 < f.kind ∧ f.base = x)) → l.foldl put1 g x = none := by
    intro l
    induction l with
    | nil => intro g hg _; exact hg
    | cons a l ih =>
      intro g hg h
      refine ih _ ?_ (fun f hf => h f (List.mem_cons_of_mem _ hf))
      unfold put1
      split
      · exact hg
      · have := h a List.mem_cons_self
        show (if x = a.base then some a.block else g x) = none
        rw [if_neg (fun q => this ⟨by omega, q.symm⟩)]; exact hg
  exact this l _ rfl h
/-- All entries of a base so far have the block that was seen last. -/
def Agree (l : List En) : Prop := ∀ f, f ∈ l → 2 < f.kind → seenE l f.base = some f.block
theorem Agree.next {l : List En} {j : Nat} {e : En} (h : Agree (l.take j)) (he : l[j]? = some e) (hf : 2 < e.kind → ∀ f, f ∈ l.take j → 2 < f.kind → f.base = e.base → f.block = e.block) : Agree (l.take (j + 1)) := by
  intro f hm hk
  rw [seenE_next he]
  rw [List.take_add_one, he, Option.toList_some] at hm
  unfold put1
  rcases List.mem_append.1 hm with q | q
  · split
    · exact h f q hk
    · rename_i hek
      show (if f.base = e.base then some e.block else seenE (l.take j) f.base) = some f.block
      split
      · rename_i hb; rw [hf (by omega) f q hk hb]
      · exact h f q hk
  · rw [List.mem_singleton.1 q] at hk ⊢
    rw [if_neg (by omega)]
    show (if e.base = e.base then some e.block else _) = some e.block
    rw [if_pos rfl]

set_option maxHeartbeats 8000000 in
theorem rEnv_spec (l : List En) (hl : sizesE l ≤ 1048576) : FC Tryz.prog 16 [sE l] (.int .i64 (envI l)) := by
  have hlen := len_le_sizesE l
  by_cases hb : 200 < l.length
  · have he : envI l = 13 := by unfold envI; rw [if_pos hb]
    have hb' : ((rsE l).length : Int) > 200 := by rw [rsE_length]; omega
    rw [he]
    refine FC_intro hty Tryz.func16 rfl rfl rfl fun w0 => ?_
    repeat' (first | exact absurd hb' ‹_› | refine WL_p hty rfl rfl ?_ | refine WL_nil ?_ | refine AC_seq ?_ | refine AC_region ?_ | refine AC_block ?_ | refine AC_skip ?_ | refine AC_condT rfl ?_ | refine AC_condF rfl ?_ | refine AC_exit ?_ | refine AC_ret ?_ | refine ends_bool rfl ?_ | refine WL_cmp rfl rfl rfl rfl (fun _ => ?_) (fun _ => ?_) | refine AC_cond rfl (fun _ => ?_) (fun _ => ?_))
    all_goals exact ends_int rfl rfl
  have hb' : ¬ ((rsE l).length : Int) > 200 := by rw [rsE_length]; omega
  have he : envI l = if rowOK (fun _ => none) 0 l = true then 0 else 12 := by unfold envI; rw [if_neg hb]
  refine FC_intro hty Tryz.func16 rfl rfl rfl fun w0 => ?_
  repeat' (first | exact absurd (by assumption) hb' | refine WL_p hty rfl rfl ?_ | refine WL_nil ?_ | refine AC_seq ?_ | refine AC_region ?_ | refine AC_block ?_ | refine AC_skip ?_ | refine AC_condT rfl ?_ | refine AC_condF rfl ?_ | refine AC_exit ?_ | refine AC_ret ?_ | refine ends_bool rfl ?_ | refine WL_cmp rfl rfl rfl rfl (fun _ => ?_) (fun _ => ?_) | refine AC_cond rfl (fun _ => ?_) (fun _ => ?_))
  refine AC_for l.length (fun i => rowOK (fun _ => none) 0 (l.take i) = true ∧ Agree (l.take i)) (fun i => ⟨envOf [(0, sE l), (3, .int .i64 (i : Nat))], bkOf []⟩)
    (less_sub ⟨⟨_, rfl, .inl ⟨.refl _, rfl⟩⟩, ⟨_, rfl, .inl ⟨.refl _, rfl⟩⟩, trivial⟩ trivial) ⟨rfl, fun f hf => by simp at hf⟩ ?_
  intro i hi hI
  obtain ⟨hrow, hag⟩ := hI
  repeat' (first | refine WL_p hty rfl rfl ?_ | refine WL_nil ?_ | refine AC_seq ?_ | refine AC_region ?_ | refine AC_block ?_ | refine AC_skip ?_ | refine AC_condT rfl ?_ | refine AC_condF rfl ?_ | refine AC_exit ?_ | refine AC_ret ?_ | refine ends_bool rfl ?_)
  refine WL_cmp rfl rfl rfl rfl (fun hc => ?_) (fun hc => ?_)
  · have hlt : i < l.length := by rw [rsE_length] at hc; omega
    obtain ⟨e, he', hmem⟩ := get_of_lt hlt
    have re := rsE_get he'
    have hes := size_le_sizesE hmem
    have hes' : e.size = e.typ.size + e.body.size + e.block.size := rfl
    have hel := elder_spec l i e hl he'
    have hnx := rowOK_next he'
    rw [hrow, Bool.true_and] at hnx
    have hbad : entryB (seenE (l.take i)) e (i : Nat) = false → (12 : Int) = envI l := fun q => by rw [he, if_neg (by rw [rowOK_not he' q]; exact Bool.false_ne_true)]
    have hinc : AV.int .i64 (IntKind.i64.wrap ((i : Int) + 1)) = AV.int .i64 ((i + 1 : Nat) : Int) := congrArg (AV.int .i64) ((wrap_ok (by omega) (by omega)).trans (by omega))
    by_cases hel0 : elderI l i e < 0
    · have hen := entry_spec e (i : Nat) true (by omega) (by omega)
      have hno : 2 < e.kind → ∀ f, f ∈ l.take i → ¬ (2 < f.kind ∧ f.base = e.base) := fun hk f hf q => by
        unfold elderI at hel0
        rw [if_pos hk] at hel0
        have : (l.take i).any (sameB e) = true := List.any_eq_true.2 ⟨f, hf, by simp [sameB, q.1, q.2]⟩
        have := idxF_ge.2 this
        omega
      have hee : entryD e (i : Nat) true = entryB (seenE (l.take i)) e (i : Nat) := by
        unfold entryD entryB
        by_cases hk : e.kind < 3
        · rw [decide_eq_true hk]; simp
        · have : freshB (seenE (l.take i)) e = knownB e.block e.base := by unfold freshB; rw [seenE_none (hno (by omega))]
          rw [this]; simp
      rw [hee] at hen
      generalize entryB (seenE (l.take i)) e (i : Nat) = r at hen hnx hbad
      generalize elderI l i e = k at hel hel0
      cases r
      · repeat' (first | exact absurd hel0 ‹_› | refine WL_call 0 rfl hel rfl rfl rfl ?_ | (refine AC_regK (id := 7) ?_; refine AC_less (less_sub (l := [(0, _), (3, _), (4, _)]) (bl := []) ⟨⟨_, rfl, .inl ⟨.refl _, rfl⟩⟩, ⟨_, rfl, .inl ⟨.refl _, rfl⟩⟩, ⟨_, rfl, .inl ⟨.refl _, rfl⟩⟩, trivial⟩ trivial) ?_; refine AC_drawnE (id := 7) tbDocE16_7 rfl (by kernel_rfl) ?_) | refine WE_call 0 rfl hen rfl rfl rfl ?_ | refine WE_cons (.inl ⟨rfl, stepE_ok hty rfl rfl⟩) ?_ | refine WE_cons (.inl ⟨rfl, m_idxN hty rfl rfl rfl (by assumption) rfl⟩) ?_ | refine WE_ung rfl rfl ?_ | refine WE_offT rfl rfl rfl ?_ | refine WE_offF rfl rfl rfl ?_ | refine WE_offU rfl rfl rfl ?_ | refine WE_nil ⟨by kernel_rfl, ?_⟩ | refine WL_p hty rfl rfl ?_ | refine WL_nil ?_ | refine AC_seq ?_ | refine AC_region ?_ | refine AC_block ?_ | refine AC_skip ?_ | refine AC_condT rfl ?_ | refine AC_condF rfl ?_ | refine AC_exit ?_ | refine AC_ret ?_ | refine ends_bool rfl ?_ | refine WL_cmp rfl rfl rfl rfl (fun _ => ?_) (fun _ => ?_) | refine AC_cond rfl (fun _ => ?_) (fun _ => ?_) | refine WE_cmp rfl rfl rfl rfl (fun _ => ?_) (fun _ => ?_))
        exact ends_int rfl (hbad rfl)
      · have n0 : ¬ k ≥ 0 := by omega
        repeat' (first | exact absurd hel0 ‹_› | exact absurd (by assumption) n0 | refine WL_call 0 rfl hel rfl rfl rfl ?_ | (refine AC_regK (id := 7) ?_; refine AC_less (less_sub (l := [(0, _), (3, _), (4, _)]) (bl := []) ⟨⟨_, rfl, .inl ⟨.refl _, rfl⟩⟩, ⟨_, rfl, .inl ⟨.refl _, rfl⟩⟩, ⟨_, rfl, .inl ⟨.refl _, rfl⟩⟩, trivial⟩ trivial) ?_; refine AC_drawnE (id := 7) tbDocE16_7 rfl (by kernel_rfl) ?_) | refine WE_call 0 rfl hen rfl rfl rfl ?_ | refine WE_cons (.inl ⟨rfl, stepE_ok hty rfl rfl⟩) ?_ | refine WE_cons (.inl ⟨rfl, m_idxN hty rfl rfl rfl (by assumption) rfl⟩) ?_ | refine WE_ung rfl rfl ?_ | refine WE_offT rfl rfl rfl ?_ | refine WE_offF rfl rfl rfl ?_ | refine WE_offU rfl rfl rfl ?_ | refine WE_nil ⟨by kernel_rfl, ?_⟩ | refine WL_p hty rfl rfl ?_ | refine WL_nil ?_ | refine AC_seq ?_ | refine AC_region ?_ | refine AC_block ?_ | refine AC_skip ?_ | refine AC_condT rfl ?_ | refine AC_condF rfl ?_ | refine AC_exit ?_ | refine AC_ret ?_ | refine ends_bool rfl ?_ | refine WL_cmp rfl rfl rfl rfl (fun _ => ?_) (fun _ => ?_) | refine AC_cond rfl (fun _ => ?_) (fun _ => ?_) | refine WE_cmp rfl rfl rfl rfl (fun _ => ?_) (fun _ => ?_))
        refine ⟨hlt, ⟨hnx, hag.next he' (fun hk f hf h1 h2 => absurd ⟨h1, h2⟩ (hno hk f hf))⟩, (less_sub ⟨⟨_, rfl, .inl ⟨.refl _, rfl⟩⟩, ⟨_, rfl, see_eq ?_ rfl⟩, trivial⟩ trivial)⟩
        exact hinc
    · have hen := entry_spec e (i : Nat) false (by omega) (by omega)
      have hk : 2 < e.kind := by
        cases Classical.em (2 < e.kind) with
        | inl q => exact q
        | inr q => unfold elderI at hel0; rw [if_neg q] at hel0; omega
      have hei : elderI l i e = idxF (sameB e) (l.take i) := by unfold elderI; rw [if_pos hk]
      have hel1 : 0 ≤ elderI l i e := by omega
      have hlt3 := idxF_lt (p := sameB e) (l := l.take i) (by omega)
      rw [← hei] at hlt3
      obtain ⟨f, hf, hfm⟩ := get_of_lt (show (elderI l i e).toNat < (l.take i).length by omega)
      have hfs : sameB e f = true := by
        have := idxF_at (p := sameB e) (l := l.take i) (by omega)
        rw [← hei] at this
        exact this f hf
      have hfl : l[(elderI l i e).toNat]? = some f := by
        rw [List.length_take] at hlt3
        rwa [List.getElem?_take, if_pos (by omega)] at hf
      simp only [sameB, Bool.and_eq_true, decide_eq_true_eq] at hfs
      have hse := hag f hfm hfs.1
      rw [hfs.2] at hse
      have rf := rsE_get hfl
      have hfz := size_le_sizesE (List.mem_of_mem_take hfm)
      have hfz' : f.size = f.typ.size + f.body.size + f.block.size := rfl
      have hkb := kblock_spec f.block e.block (by omega)
      have hee : entryB (seenE (l.take i)) e (i : Nat) = (entryD e (i : Nat) false && decide (f.block = e.block)) := by
        unfold entryD entryB freshB
        rw [hse, decide_eq_false (show ¬ e.kind < 3 by omega)]; simp
      rw [hee] at hnx hbad
      generalize entryD e (i : Nat) false = r1 at hen hnx hbad
      have hall : decide (f.block = e.block) = true → ∀ g, g ∈ l.take i → 2 < g.kind → g.base = e.base → g.block = e.block := fun q g hg h1 h2 => by
        have h3 := hag g hg h1
        rw [h2, hse] at h3
        rw [← Option.some.inj h3]; exact of_decide_eq_true q
      generalize decide (f.block = e.block) = r2 at hkb hnx hbad hall
      generalize elderI l i e = k at hel hel0 hel1 rf
      cases r1
      · repeat' (first | refine WL_call 0 rfl hel rfl rfl rfl ?_ | exact absurd (by assumption) hel0 | (refine AC_regK (id := 7) ?_; refine AC_less (less_sub (l := [(0, _), (3, _), (4, _)]) (bl := []) ⟨⟨_, rfl, .inl ⟨.refl _, rfl⟩⟩, ⟨_, rfl, .inl ⟨.refl _, rfl⟩⟩, ⟨_, rfl, .inl ⟨.refl _, rfl⟩⟩, trivial⟩ trivial) ?_; refine AC_drawnE (id := 7) tbDocE16_7 rfl (by kernel_rfl) ?_) | refine WE_call 0 rfl hen rfl rfl rfl ?_ | refine WE_cons (.inl ⟨rfl, stepE_ok hty rfl rfl⟩) ?_ | refine WE_cons (.inl ⟨rfl, m_idxN hty rfl rfl rfl (by assumption) rfl⟩) ?_ | refine WE_ung rfl rfl ?_ | refine WE_offT rfl rfl rfl ?_ | refine WE_offF rfl rfl rfl ?_ | refine WE_offU rfl rfl rfl ?_ | refine WE_nil ⟨by kernel_rfl, ?_⟩ | refine WL_p hty rfl rfl ?_ | refine WL_nil ?_ | refine AC_seq ?_ | refine AC_region ?_ | refine AC_block ?_ | refine AC_skip ?_ | refine AC_condT rfl ?_ | refine AC_condF rfl ?_ | refine AC_exit ?_ | refine AC_ret ?_ | refine ends_bool rfl ?_ | refine WL_cmp rfl rfl rfl rfl (fun _ => ?_) (fun _ => ?_) | refine AC_cond rfl (fun _ => ?_) (fun _ => ?_) | refine WE_cmp rfl rfl rfl rfl (fun _ => ?_) (fun _ => ?_))
        exact ends_int rfl (hbad rfl)
      · have n0 : k ≥ 0 := hel1
        cases r2
        all_goals
          repeat' (first | refine WL_call 0 rfl hel rfl rfl rfl ?_ | exact absurd (by assumption) hel0 | exact absurd n0 ‹_› | (refine AC_regK (id := 7) ?_; refine AC_less (less_sub (l := [(0, _), (3, _), (4, _)]) (bl := []) ⟨⟨_, rfl, .inl ⟨.refl _, rfl⟩⟩, ⟨_, rfl, .inl ⟨.refl _, rfl⟩⟩, ⟨_, rfl, .inl ⟨.refl _, rfl⟩⟩, trivial⟩ trivial) ?_; refine AC_drawnE (id := 7) tbDocE16_7 rfl (by kernel_rfl) ?_) | refine WE_call 0 rfl hen rfl rfl rfl ?_ | refine WE_call 0 rfl hkb rfl rfl rfl ?_ | refine WE_m rfl (m_idxL hty rfl rfl rfl hel1 rf rfl) ?_ | refine WE_m rfl (m_idxN (i := i) hty rfl rfl rfl re rfl) ?_ | refine WE_cons (.inl ⟨rfl, stepE_ok hty rfl rfl⟩) ?_ | refine WE_cons (.inl ⟨rfl, m_idxN hty rfl rfl rfl (by assumption) rfl⟩) ?_ | refine WE_ung rfl rfl ?_ | refine WE_offT rfl rfl rfl ?_ | refine WE_offF rfl rfl rfl ?_ | refine WE_offU rfl rfl rfl ?_ | refine WE_nil ⟨by kernel_rfl, ?_⟩ | refine WL_p hty rfl rfl ?_ | refine WL_nil ?_ | refine AC_seq ?_ | refine AC_region ?_ | refine AC_block ?_ | refine AC_skip ?_ | refine AC_condT rfl ?_ | refine AC_condF rfl ?_ | refine AC_exit ?_ | refine AC_ret ?_ | refine ends_bool rfl ?_ | refine WL_cmp rfl rfl rfl rfl (fun _ => ?_) (fun _ => ?_) | refine AC_cond rfl (fun _ => ?_) (fun _ => ?_) | refine WE_cmp rfl rfl rfl rfl (fun _ => ?_) (fun _ => ?_))
        · exact ends_int rfl (hbad rfl)
        · refine ⟨hlt, ⟨hnx, hag.next he' (fun _ => hall rfl)⟩, (less_sub ⟨⟨_, rfl, .inl ⟨.refl _, rfl⟩⟩, ⟨_, rfl, see_eq ?_ rfl⟩, trivial⟩ trivial)⟩
          exact hinc
  · obtain rfl : i = l.length := by rw [rsE_length] at hc; omega
    rw [List.take_length] at hrow
    repeat' (first | refine WL_p hty rfl rfl ?_ | refine WL_nil ?_ | refine AC_seq ?_ | refine AC_region ?_ | refine AC_block ?_ | refine AC_skip ?_ | refine AC_condT rfl ?_ | refine AC_condF rfl ?_ | refine AC_exit ?_ | refine AC_ret ?_ | refine ends_bool rfl ?_ | refine WL_cmp rfl rfl rfl rfl (fun _ => ?_) (fun _ => ?_) | refine AC_cond rfl (fun _ => ?_) (fun _ => ?_))
    refine ends_int rfl ?_
    rw [he, if_pos hrow]

end Go.Proofs.YtlonpgdnmngnmaaGreat
