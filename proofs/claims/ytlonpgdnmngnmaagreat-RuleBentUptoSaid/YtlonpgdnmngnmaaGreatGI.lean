/-
  Terms and numbers are told anew by the document's side: the same, in memory of their own.; Which constant of a block a number is, in plain words.; The document's answers for terms: Binds, scoped, Scope.; The document's answer: whether a block has the right shape: arguments, constructors.; The document's answer: the constants of a block, how many, which.; The document's answer: which constant of a block a number is.; The document's answer: whether a constructor has the right shape.; The document's answer: whether a block has the right shape.; Arguments, constructors, blocks are compared, field by field.
-/
import Derived.Test.YtlonpgdnmngnmaaGreatGD
import Derived.Test.YtlonpgdnmngnmaaGreatGB
import Derived.Test.YtlonpgdnmngnmaaGreatGE
import Derived.Test.YtlonpgdnmngnmaaGreatGC

/-
  Terms and numbers are told anew by the document's side: the same, in memory of their own.
-/
namespace Go.Proofs.YtlonpgdnmngnmaaGreat
set_option linter.unusedSimpArgs false
set_option linter.unusedVariables false
open Go.Aw Go.RowKit
def tbKTwin26_1 : List (Nat × List Nat) := [(0, []), (1, [0]), (2, []), (3, [2]), (4, []), (5, [4]), (6, [4, 5]), (7, [0, 1, 2, 3, 4, 5, 6]), (8, [0, 1, 2, 3, 4, 5, 6, 7])]
attribute [local irreducible] WL AC WD WE MStep OkOp

theorem AC_regK {P : Program} {w0 : B0} {nt : Nat} {id : Nat} {ops : Array Oper} {b : Bool} {s : AS} {C : Exit → AS → Prop} (h : AC P w0 nt (.region id ops b) s C) : AC P w0 nt (.region id ops b) s C := h
/-- Rows in memory of the callee's own; nil if there are none. -/
def ownR (e es : Nat) : List (List AV) → AV
  | [] => .lst es [] true
  | r :: l => .own e es (r :: l) true
abbrev ownT (l : List Tm) : AV := ownR 24 3 (rsT l)
abbrev ownI (l : List Int) : AV := ownR 3 1 (rsI l)

theorem twinInts_spec (l : List Int) (full : Bool) (h : l.length ≤ 4194304) : FC Tryz.prog 186 [.lst 1 (rsI l) full] (ownI l) := by
  refine FC_intro hty Tryz.func186 rfl rfl rfl fun w0 => ?_
  cases l with
  | nil =>
    repeat' (first | refine WL_m rfl (m_app0 hty rfl rfl rfl rfl rfl rfl rfl) ?_ | refine WL_p hty rfl rfl ?_ | refine WL_nil ?_ | refine AC_seq ?_ | refine AC_region ?_ | refine AC_skip ?_ | refine AC_ret ?_ | refine ends_bool rfl ?_)
    exact ends_wk rfl rfl (.nil _ _ _)
  | cons x l =>
    repeat' (first | refine WL_m rfl (m_appF hty 20 rfl rfl rfl rfl rfl rfl rfl (List.cons_ne_nil _ _) (by rw [rsI_length]; simp only [List.length_cons, List.length_nil] at *; omega) rfl rfl rfl) ?_ | refine WL_p hty rfl rfl ?_ | refine WL_nil ?_ | refine AC_seq ?_ | refine AC_region ?_ | refine AC_skip ?_ | refine AC_ret ?_ | refine ends_bool rfl ?_)
    exact ends_own rfl rfl rfl

theorem ktwin_step (n : Nat) (hn : n ≤ 1048576) (ihs : ∀ l : List Tm, sizes l ≤ n → FC Tryz.prog 51 [sT l] (ownT l)) (t : Tm) (h : t.size ≤ n + 1) : FC Tryz.prog 26 [aT t] (aT t) := by
  have hs := t.size_eq
  have ih := ihs t.kids (by omega)
  show FC Tryz.prog 26 [.agg [.int .i64 t.kind, .int .i64 t.num, .lst 3 (rsT t.kids) false]] (.agg [.int .i64 t.kind, .int .i64 t.num, .lst 3 (rsT t.kids) false])
  replace ih : FC Tryz.prog 51 [.lst 3 (rsT t.kids) false] (ownR 24 3 (rsT t.kids)) := ih
  generalize rsT t.kids = rs at ih ⊢
  refine FC_intro hty Tryz.func26 rfl rfl rfl fun w0 => ?_
  cases rs with
  | nil =>
    repeat' (first | refine AC_drawnE (id := 1) tbKTwin26_1 rfl (by kernel_rfl) ?_ | refine WE_cons (.inl ⟨rfl, m_call 0 rfl ih rfl rfl rfl⟩) ?_ | refine WE_cons (.inl ⟨rfl, stepE_ok hty rfl rfl⟩) ?_ | refine WE_nil ⟨by kernel_rfl, ?_⟩ | refine WL_p hty rfl rfl ?_ | refine WL_nil ?_ | refine AC_seq ?_ | refine AC_region ?_ | refine AC_skip ?_ | refine AC_ret ?_ | refine ends_bool rfl ?_)
    refine ends_wk rfl rfl ?_
    exact .agg (.cons (.refl _) (.cons (.refl _) (.cons (.nilF _ _ _) .nil)))
  | cons r l =>
    repeat' (first | refine AC_drawnE (id := 1) tbKTwin26_1 rfl (by kernel_rfl) ?_ | refine WE_cons (.inl ⟨rfl, m_call 20 rfl ih rfl rfl rfl⟩) ?_ | refine WE_cons (.inl ⟨rfl, stepE_ok hty rfl rfl⟩) ?_ | refine WE_nil ⟨by kernel_rfl, ?_⟩ | refine WL_p hty rfl rfl ?_ | refine WL_nil ?_ | refine AC_seq ?_ | refine AC_region ?_ | refine AC_skip ?_ | refine AC_ret ?_ | refine ends_bool rfl ?_)
    refine ends_less (less_freeze 20 rfl) ?_
    refine ends_wk rfl rfl ?_
    exact .refl _

theorem ktwins_step (n : Nat) (hn : n ≤ 1048576) (ih : ∀ t : Tm, t.size ≤ n → FC Tryz.prog 26 [aT t] (aT t)) (l : List Tm) (h : sizes l ≤ n) : FC Tryz.prog 51 [sT l] (ownT l) := by
  have hlen := len_le_sizes l
  refine FC_intro hty Tryz.func51 rfl rfl rfl fun w0 => ?_
  repeat' (first | refine WL_p hty rfl rfl ?_ | refine WL_nil ?_ | refine AC_seq ?_ | refine AC_region ?_ | refine AC_block ?_ | refine AC_skip ?_ | refine AC_condT rfl ?_ | refine AC_condF rfl ?_ | refine AC_exit ?_ | refine AC_ret ?_ | refine WL_m rfl (m_idxN hty rfl rfl rfl (by assumption) rfl) ?_ | refine ends_bool rfl ?_ | refine WL_cmp rfl rfl rfl rfl (fun _ => ?_) (fun _ => ?_) | refine AC_cond rfl (fun _ => ?_) (fun _ => ?_))
  refine AC_less (less_gone 103 rfl) ?_
  refine AC_for l.length (fun _ => True) (fun i => ⟨envOf [(0, sT l), (3, grV 103 3 (rsT (l.take i))), (4, .int .i64 (i : Nat))], bkOf [(103, grB 24 3 (rsT (l.take i)))]⟩)
    (less_sub ⟨⟨_, rfl, .inl ⟨.refl _, rfl⟩⟩, ⟨_, rfl, .inl ⟨.nil _ _ _, rfl⟩⟩, ⟨_, rfl, .inl ⟨.refl _, rfl⟩⟩, trivial⟩ ⟨⟨⟨_, rfl, .refl _⟩, rfl⟩, trivial⟩) trivial ?_
  intro i hi _
  repeat' (first | refine WL_p hty rfl rfl ?_ | refine WL_nil ?_ | refine AC_seq ?_ | refine AC_region ?_ | refine AC_block ?_ | refine AC_skip ?_ | refine AC_condT rfl ?_ | refine AC_condF rfl ?_ | refine AC_exit ?_ | refine AC_ret ?_ | refine WL_m rfl (m_idxN hty rfl rfl rfl (by assumption) rfl) ?_ | refine ends_bool rfl ?_)
  refine WL_cmp rfl rfl rfl rfl (fun hc => ?_) (fun hc => ?_)
  · have hlt : i < l.length := by rw [rsT_length] at hc; omega
    obtain ⟨a, ha, hmem⟩ := get_of_lt hlt
    have ra := rsT_get ha
    have has := size_le_sizes hmem
    repeat' (first | refine WL_call 0 rfl (ih a (by omega)) rfl rfl rfl ?_ | refine WL_m rfl (m_appG hty 303 rfl rfl rfl rfl rfl rfl rfl (by simp only [rsT_length, List.length_take, List.length_cons, List.length_nil]; omega) rfl rfl rfl) ?_ | refine WL_p hty rfl rfl ?_ | refine WL_nil ?_ | refine AC_seq ?_ | refine AC_region ?_ | refine AC_block ?_ | refine AC_skip ?_ | refine AC_condT rfl ?_ | refine AC_condF rfl ?_ | refine AC_exit ?_ | refine AC_ret ?_ | refine WL_m rfl (m_idxN hty rfl rfl rfl (by assumption) rfl) ?_ | refine ends_bool rfl ?_ | refine WL_cmp rfl rfl rfl rfl (fun _ => ?_) (fun _ => ?_) | refine AC_cond rfl (fun _ => ?_) (fun _ => ?_))
    have hnx : rsT (l.take (i + 1)) = rsT (l.take i) ++ [cT a] := by rw [List.take_add_one, ha, Option.toList_some, rsT_append, rs1]
    refine ⟨hlt, trivial, (less_ren [(103, 303)] rfl ⟨⟨_, rfl, .inl ⟨.refl _, rfl⟩⟩, ⟨_, rfl, .inl ⟨wk_gr rfl ?_, keep_gr rfl⟩⟩, ⟨_, rfl, see_eq ?_ rfl⟩, trivial⟩ ⟨⟨⟨_, rfl, wkB_gr ?_⟩, keepB_gr⟩, trivial⟩)⟩
    · exact hnx.symm
    · exact congrArg (AV.int .i64) ((wrap_ok (by omega) (by omega)).trans (by omega))
    · exact hnx.symm
  · obtain rfl : i = l.length := by rw [rsT_length] at hc; omega
    repeat' (first | refine WL_p hty rfl rfl ?_ | refine WL_nil ?_ | refine AC_seq ?_ | refine AC_region ?_ | refine AC_block ?_ | refine AC_skip ?_ | refine AC_condT rfl ?_ | refine AC_condF rfl ?_ | refine AC_exit ?_ | refine AC_ret ?_ | refine WL_m rfl (m_idxN hty rfl rfl rfl (by assumption) rfl) ?_ | refine ends_bool rfl ?_ | refine WL_cmp rfl rfl rfl rfl (fun _ => ?_) (fun _ => ?_) | refine AC_cond rfl (fun _ => ?_) (fun _ => ?_))
    rw [List.take_length]
    show EndsAs _ _ (ownR 24 3 (rsT l)) _ _
    generalize rsT l = rs
    cases rs
    · exact ends_is rfl rfl rfl
    · exact ends_own rfl rfl rfl

theorem ktwins_all : ∀ n, n ≤ 1048576 → ∀ l : List Tm, sizes l ≤ n → FC Tryz.prog 51 [sT l] (ownT l) := by
  intro n
  induction n with
  | zero => exact fun hn => ktwins_step 0 hn (fun a h => absurd a.size_pos (by omega))
  | succ n ih => exact fun hn => ktwins_step (n + 1) hn (ktwin_step n (by omega) (ih (by omega)))
theorem ktwins_spec (l : List Tm) (h : sizes l ≤ 1048576) : FC Tryz.prog 51 [sT l] (ownT l) := ktwins_all 1048576 (Nat.le_refl _) l h
theorem ktwin_spec (t : Tm) (h : t.size ≤ 1048576) : FC Tryz.prog 26 [aT t] (aT t) := ktwin_step 1048575 (by omega) (ktwins_all 1048575 (by omega)) t h

end Go.Proofs.YtlonpgdnmngnmaaGreat

/-
  Which constant of a block a number is, in plain words.
-/
namespace Go.Proofs.YtlonpgdnmngnmaaGreat
set_option linter.unusedSimpArgs false
set_option linter.unusedVariables false
open Go.Aw Go.RowKit

theorem placeI_eq {base a k m n : Int} (h : placeI base a k m = n) (hn : 0 ≤ n) : 0 ≤ base ∧ base ≤ 65535 ∧ 0 ≤ k ∧ k < m ∧ n = base + a + k := by
  unfold placeI at h
  repeat' (split at h)
  all_goals omega
theorem decoderI_eq {b : Bl} {base k n : Int} (h : decoderI b base k = n) (hn : 0 ≤ n) : 0 ≤ base ∧ base ≤ 65535 ∧ 0 ≤ k ∧ k < b.sorts.length ∧ decS b k = true ∧ n = base + b.sorts.length + decsN (b.sorts.take k.toNat) := by
  unfold decoderI at h
  split at h
  · omega
  · split at h
    · omega
    · split at h
      · rename_i h1 h2 h3
        have := placeI_eq h hn
        exact ⟨this.1, this.2.1, by omega, by omega, h3, this.2.2.2.2⟩
      · omega
theorem decsN_mono (l : List Sr) {i j : Nat} (h : i ≤ j) : decsN (l.take i) ≤ decsN (l.take j) := by
  have : l.take i = (l.take j).take i := by rw [List.take_take, Nat.min_eq_left h]
  rw [this]
  exact (List.take_sublist i _).countP_le
theorem decsN_all (l : List Sr) (i : Nat) : decsN (l.take i) ≤ decsN l := (List.take_sublist i _).countP_le
theorem decsN_lt {b : Bl} {k : Int} (h0 : 0 ≤ k) (h : decS b k = true) {j : Nat} (hj : k.toNat < j) : decsN (b.sorts.take k.toNat) < decsN (b.sorts.take j) := by
  unfold decS at h
  cases hs : b.sorts[k.toNat]? with
  | none => rw [hs] at h; cases h
  | some s =>
    rw [hs] at h
    have h1 := decsN_take_succ hs
    rw [if_pos h] at h1
    have := decsN_mono b.sorts (show k.toNat + 1 ≤ j by omega)
    omega
theorem decsN_lt_all {b : Bl} {k : Int} (h0 : 0 ≤ k) (h : decS b k = true) : decsN (b.sorts.take k.toNat) < decsN b.sorts := by
  have := decsN_lt h0 h (j := k.toNat + 1) (by omega)
  exact Nat.lt_of_lt_of_le this (decsN_all _ _)

theorem any_range {p : Nat → Bool} {m : Nat} (h : ∀ i, i < m → p i = false) : (List.range m).any p = false := by
  rw [List.any_eq_false]
  intro x hx
  rw [h x (List.mem_range.1 hx)]; exact Bool.false_ne_true
theorem ofL_hit {kd : Int} {m : Nat} {f : Int → Int} {l : List (Int × Nat × (Int → Int))} {n : Int} {k : Nat} (hk : k < m) (hf : f k = n) (hu : ∀ i : Nat, i < k → f i ≠ n) : ofL ((kd, m, f) :: l) n = (kd, (k : Int)) := by
  have hid : idxF (fun i : Nat => decide (f i = n)) (List.range m) = (k : Nat) := by
    refine idxF_hit (a := k) (by simp [hf]) ?_ (range_get hk)
    rw [List.take_range, Nat.min_eq_left (Nat.le_of_lt hk)]
    exact any_range fun i hi => decide_eq_false (hu i hi)
  simp only [ofL, hid]
  rw [if_pos (Int.natCast_nonneg _)]
theorem ofL_skip {kd : Int} {m : Nat} {f : Int → Int} {l : List (Int × Nat × (Int → Int))} {n : Int} (hu : ∀ i : Nat, i < m → f i ≠ n) : ofL ((kd, m, f) :: l) n = ofL l n := by
  have hid : idxF (fun i : Nat => decide (f i = n)) (List.range m) = -1 := idxF_none (any_range fun i hi => decide_eq_false (hu i hi))
  simp only [ofL, hid]
  rw [if_neg (by decide)]
theorem ofB_in {b : Bl} {base n : Int} (h0 : 0 ≤ base) (h1 : base ≤ 65535) (h2 : base ≤ n) (h3 : n - base < countN b) : ofB b base n = ofL (ofRows b base) n := by
  unfold ofB
  rw [if_neg (by omega), if_neg (by omega), if_neg (by omega), if_neg (by omega)]

theorem ofB_former {b : Bl} {base n : Int} {k : Nat} (h : formerI b base k = n) (hn : 0 ≤ n) : ofB b base n = (3, (k : Int)) := by
  have q := placeI_eq h hn
  rw [ofB_in q.1 q.2.1 (by omega) (by unfold countN; omega)]
  refine ofL_hit (by omega) h fun i hi e => ?_
  have := placeI_eq e hn
  omega
theorem noFormer {b : Bl} {base n : Int} (hn : 0 ≤ n) (h : base + b.sorts.length ≤ n) (i : Nat) : formerI b base i ≠ n := fun e => by
  have := placeI_eq e hn; omega
theorem noDecoder {b : Bl} {base n : Int} (hn : 0 ≤ n) (h : base + b.sorts.length + decsN b.sorts ≤ n) (i : Nat) : decoderI b base i ≠ n := fun e => by
  have h1 := decoderI_eq e hn
  have := decsN_lt_all h1.2.2.1 h1.2.2.2.2.1
  omega
theorem noCons {b : Bl} {base n : Int} (hn : 0 ≤ n) (h : base + b.sorts.length + decsN b.sorts + b.cons.length ≤ n) (i : Nat) : constructorI b base i ≠ n := fun e => by
  have := placeI_eq e hn; omega
theorem ofB_decoder {b : Bl} {base n : Int} {k : Nat} (h : decoderI b base k = n) (hn : 0 ≤ n) : ofB b base n = (4, (k : Int)) := by
  have q := decoderI_eq h hn
  have hl := decsN_lt_all q.2.2.1 q.2.2.2.2.1
  rw [ofB_in q.1 q.2.1 (by omega) (by unfold countN; omega)]
  unfold ofRows
  rw [ofL_skip fun i _ => noFormer hn (by omega) i]
  refine ofL_hit (by omega) h fun i hi e => ?_
  have r := decoderI_eq e hn
  have := decsN_lt r.2.2.1 r.2.2.2.2.1 (j := k) (by omega)
  have h9 := q.2.2.2.2.2
  rw [show ((k : Nat) : Int).toNat = k from rfl] at h9
  omega
theorem ofB_constructor {b : Bl} {base n : Int} {k : Nat} (h : constructorI b base k = n) (hn : 0 ≤ n) : ofB b base n = (5, (k : Int)) := by
  have q := placeI_eq h hn
  rw [ofB_in q.1 q.2.1 (by omega) (by unfold countN; omega)]
  unfold ofRows
  rw [ofL_skip fun i _ => noFormer hn (by omega) i, ofL_skip fun i _ => noDecoder hn (by omega) i]
  refine ofL_hit (by omega) h fun i hi e => ?_
  have := placeI_eq e hn
  omega
theorem ofB_eliminator {b : Bl} {base n : Int} {k : Nat} (h : eliminatorI b base k = n) (hn : 0 ≤ n) : ofB b base n = (6, (k : Int)) := by
  have q := placeI_eq h hn
  rw [ofB_in q.1 q.2.1 (by omega) (by unfold countN; omega)]
  unfold ofRows
  rw [ofL_skip fun i _ => noFormer hn (by omega) i, ofL_skip fun i _ => noDecoder hn (by omega) i, ofL_skip fun i _ => noCons hn (by omega) i]
  refine ofL_hit (by omega) h fun i hi e => ?_
  have := placeI_eq e hn
  omega
theorem ofB_none {b : Bl} {base n : Int} (h3 : ∀ k : Nat, k < b.sorts.length → formerI b base k ≠ n) (h4 : ∀ k : Nat, k < b.sorts.length → decoderI b base k ≠ n) (h5 : ∀ k : Nat, k < b.cons.length → constructorI b base k ≠ n)
    (h6 : ∀ k : Nat, k < b.sorts.length → eliminatorI b base k ≠ n) : ofB b base n = (0, 0) := by
  unfold ofB
  split
  · rfl
  · split
    · rfl
    · split
      · rfl
      · split
        · rfl
        · unfold ofRows
          rw [ofL_skip h3, ofL_skip h4, ofL_skip h5, ofL_skip h6]; rfl
theorem ofB_neg {b : Bl} {base n : Int} (h : n < 0) : ofB b base n = (0, 0) := by
  unfold ofB
  split
  · rfl
  · split
    · rfl
    · rw [if_pos (by omega)]

end Go.Proofs.YtlonpgdnmngnmaaGreat

/-
  The document's answers for terms: Binds, scoped, Scope.
-/
namespace Go.Proofs.YtlonpgdnmngnmaaGreat
set_option linter.unusedSimpArgs false
set_option linter.unusedVariables false
open Go.Aw Go.RowKit
def tbRef115_11 : List (Nat × List Nat) := [(0, []), (1, [0]), (2, []), (3, [0, 1, 2]), (4, [0, 1, 2, 3]), (5, []), (6, []), (7, [6]), (8, []), (9, [6, 7, 8]), (10, [5, 6, 7, 8, 9]), (11, []), (12, [0, 1, 2, 3, 4, 5, 6, 7, 8, 9, 10, 11]), (13, [0, 1, 2, 3, 4, 5, 6, 7, 8, 9, 10, 11, 12])]
attribute [local irreducible] WL AC WD WE MStep OkOp

theorem binds_spec (k i : Int) : FC Tryz.prog 158 [.int .i64 k, .int .i64 i] (.int .i64 (bindsR k i)) := by
  refine FC_intro hty Tryz.func158 rfl rfl rfl fun w0 => ?_
  repeat' (first | refine WL_p hty rfl rfl ?_ | refine WL_nil ?_ | refine AC_seq ?_ | refine AC_region ?_ | refine AC_skip ?_ | refine AC_condT rfl ?_ | refine AC_condF rfl ?_ | refine AC_ret ?_ | refine WL_ung rfl rfl ?_ | refine WL_offT rfl rfl rfl ?_ | refine WL_offF rfl rfl rfl ?_ | refine WL_offU rfl rfl rfl ?_ | refine ends_bool rfl ?_ | refine WL_cmp rfl rfl rfl rfl (fun _ => ?_) (fun _ => ?_) | refine AC_cond rfl (fun _ => ?_) (fun _ => ?_))
  all_goals refine ends_int rfl ?_
  all_goals simp only [bindsR]; simp_all

set_option maxHeartbeats 4000000 in
theorem scoped_all : ∀ n, n ≤ 1048576 → ∀ (t : Tm) (v c : Int), t.size ≤ n → 0 ≤ v → v + t.depth ≤ 4194304 → FC Tryz.prog 115 [aT t, .int .i64 v, .int .i64 c] (.bool (scopedT t v c)) := by
  intro n
  induction n with
  | zero => intro hn t v c ht; have := t.size_pos; omega
  | succ n ih =>
  intro hn t v c ht hv0 hv
  have ih := ih (by omega)
  have hs := t.size_eq
  have hdp := t.depth_eq
  have hlen := len_le_sizes t.kids
  have hfe := scopedT_eq t v c
  refine FC_intro hty Tryz.func115 rfl rfl rfl fun w0 => ?_
  repeat' (first | refine WL_p hty rfl rfl ?_ | refine WL_nil ?_ | refine AC_seq ?_ | refine AC_region ?_ | refine AC_block ?_ | refine AC_skip ?_ | refine AC_condT rfl ?_ | refine AC_condF rfl ?_ | refine AC_exit ?_ | refine AC_ret ?_ | refine ends_bool rfl ?_ | refine WL_cmp rfl rfl rfl rfl (fun _ => ?_) (fun _ => ?_) | refine AC_cond rfl (fun _ => ?_) (fun _ => ?_))
  · rw [hfe, if_pos (by assumption)]; simp [*]
  · rw [hfe, if_pos (by assumption)]; simp [*]
  · rw [hfe, if_neg (by assumption), if_pos (by assumption)]; simp [*]
  · rw [hfe, if_neg (by assumption), if_pos (by assumption)]; simp [*]
  · rw [hfe, if_neg (by assumption), if_neg (by assumption), if_pos (by assumption)]; simp [*]
  · rw [hfe, if_neg (by assumption), if_neg (by assumption), if_pos (by assumption)]; simp [*]
  rw [if_neg (by assumption), if_neg (by assumption), if_neg (by assumption)] at hfe
  refine AC_for t.kids.length (fun j => scopedTs t.kind 0 (t.kids.take j) v c = true) (fun j => ⟨envOf [(1, .int .i64 v), (2, .int .i64 c), (3, .ptr 3 0), (7, .int .i64 (j : Nat))], bkOf [(3, .box (cT t))]⟩) (less_sub ⟨⟨_, rfl, .inl ⟨.refl _, rfl⟩⟩, ⟨_, rfl, .inl ⟨.refl _, rfl⟩⟩, ⟨_, rfl, .inl ⟨.refl _, rfl⟩⟩, ⟨_, rfl, .inl ⟨.refl _, rfl⟩⟩, trivial⟩ ⟨⟨⟨_, rfl, .refl _⟩, rfl⟩, trivial⟩) rfl ?_
  intro j hj hI
  repeat' (first | refine WL_p hty rfl rfl ?_ | refine WL_nil ?_ | refine AC_seq ?_ | refine AC_region ?_ | refine AC_block ?_ | refine AC_skip ?_ | refine AC_condT rfl ?_ | refine AC_condF rfl ?_ | refine AC_exit ?_ | refine AC_ret ?_ | refine ends_bool rfl ?_)
  refine WL_cmp rfl rfl rfl rfl (fun hc => ?_) (fun hc => ?_)
  · have hlt : j < t.kids.length := by rw [rsT_length] at hc; omega
    obtain ⟨k, hk, hmem⟩ := get_of_lt hlt
    have hks := size_le_sizes hmem
    have hkd := depth_le_depths hmem
    have rk := rsT_get hk
    have hbi : 0 ≤ bindsR t.kind (j : Nat) ∧ bindsR t.kind (j : Nat) ≤ 1 := by unfold bindsR; split <;> omega
    have hwr : IntKind.i64.wrap (v + bindsR t.kind (j : Nat)) = v + bindsR t.kind (j : Nat) := wrap_ok (n := v + bindsR t.kind (j : Nat)) (by omega) (by omega)
    have hkc := ih k (v + bindsR t.kind (j : Nat)) c (by omega) (by omega) (by omega)
    rw [← hwr] at hkc
    have hsp : scopedTs t.kind 0 t.kids v c = (scopedTs t.kind 0 (t.kids.take j) v c && (scopedT k (v + bindsR t.kind (j : Nat)) c && scopedTs t.kind (0 + (j : Nat) + 1) (t.kids.drop (j + 1)) v c)) := by
      conv => lhs; rw [← List.take_append_drop j t.kids, scopedTs_append, List.drop_eq_getElem_cons hlt, scopedTs]
      have h1 : (t.kids.take j).length = j := by rw [List.length_take]; omega
      have h2 : t.kids[j] = k := by rw [List.getElem?_eq_getElem hlt] at hk; exact Option.some.inj hk
      rw [h1, h2, Int.zero_add]
    have hst : scopedTs t.kind 0 (t.kids.take (j + 1)) v c = (scopedTs t.kind 0 (t.kids.take j) v c && scopedT k (v + bindsR t.kind (j : Nat)) c) := by
      have h1 : (t.kids.take j).length = j := by rw [List.length_take]; omega
      rw [List.take_add_one, hk, Option.toList_some, scopedTs_append, h1]
      simp [scopedTs]
    repeat' (first | refine AC_drawnE (id := 11) tbRef115_11 rfl (by kernel_rfl) ?_ | refine WE_call 0 rfl (binds_spec _ _) rfl rfl rfl ?_ | refine WE_callB rfl hkc rfl (fun _ => ?_) (fun _ => ?_) | refine WE_cons (.inl ⟨rfl, stepE_ok hty rfl rfl⟩) ?_ | refine WE_cons (.inl ⟨rfl, m_idxN hty rfl rfl rfl (by assumption) rfl⟩) ?_ | refine WE_nil ⟨by kernel_rfl, ?_⟩ | refine WL_p hty rfl rfl ?_ | refine WL_nil ?_ | refine AC_seq ?_ | refine AC_region ?_ | refine AC_block ?_ | refine AC_skip ?_ | refine AC_condT rfl ?_ | refine AC_condF rfl ?_ | refine AC_exit ?_ | refine AC_ret ?_ | refine ends_bool rfl ?_ | refine WL_cmp rfl rfl rfl rfl (fun _ => ?_) (fun _ => ?_) | refine AC_cond rfl (fun _ => ?_) (fun _ => ?_) | refine WE_cmp rfl rfl rfl rfl (fun _ => ?_) (fun _ => ?_))
    all_goals (rename_i hb; rw [hwr] at hb)
    · refine ⟨hlt, by rw [hst, hI, hb]; rfl, (less_sub ⟨⟨_, rfl, .inl ⟨.refl _, rfl⟩⟩, ⟨_, rfl, .inl ⟨.refl _, rfl⟩⟩, ⟨_, rfl, .inl ⟨.refl _, rfl⟩⟩, ⟨_, rfl, see_eq ?_ rfl⟩, trivial⟩ ⟨⟨⟨_, rfl, .refl _⟩, rfl⟩, trivial⟩)⟩
      exact congrArg (AV.int .i64) ((wrap_ok (by omega) (by omega)).trans (by omega))
    · rw [hfe, hsp, hb]; simp
  · obtain rfl : j = t.kids.length := by rw [rsT_length] at hc; omega
    rw [List.take_length] at hI
    repeat' (first | refine WL_p hty rfl rfl ?_ | refine WL_nil ?_ | refine AC_seq ?_ | refine AC_region ?_ | refine AC_block ?_ | refine AC_skip ?_ | refine AC_condT rfl ?_ | refine AC_condF rfl ?_ | refine AC_exit ?_ | refine AC_ret ?_ | refine ends_bool rfl ?_ | refine WL_cmp rfl rfl rfl rfl (fun _ => ?_) (fun _ => ?_) | refine AC_cond rfl (fun _ => ?_) (fun _ => ?_))
    rw [hfe, hI]

theorem scope_spec (t : Tm) (v c : Int) (h : t.size ≤ 1048576) : FC Tryz.prog 69 [aT t, .int .i64 v, .int .i64 c] (.bool (scopeT t v c)) := by
  have hd := t.depth_le
  refine FC_intro hty Tryz.func69 rfl rfl rfl fun w0 => ?_
  repeat' (first | refine WL_call 0 rfl (check_spec t h) rfl rfl rfl ?_ | refine WL_m rfl (m_min rfl rfl rfl) ?_ | refine WL_callB rfl (scoped_all 1048576 (by omega) t _ c h (by split <;> omega) (by split <;> omega)) rfl (fun _ => ?_) (fun _ => ?_) | refine WL_p hty rfl rfl ?_ | refine WL_nil ?_ | refine AC_seq ?_ | refine AC_region ?_ | refine AC_skip ?_ | refine AC_ret ?_ | refine WL_ung rfl rfl ?_ | refine WL_offT rfl rfl rfl ?_ | refine WL_offF rfl rfl rfl ?_ | refine WL_offU rfl rfl rfl ?_ | refine ends_bool rfl ?_ | refine WL_cmp rfl rfl rfl rfl (fun _ => ?_) (fun _ => ?_))
  all_goals simp [scopeT, *]
end Go.Proofs.YtlonpgdnmngnmaaGreat

/-
  The document's answer: whether a block has the right shape: arguments, constructors.
-/
namespace Go.Proofs.YtlonpgdnmngnmaaGreat
set_option linter.unusedSimpArgs false
set_option linter.unusedVariables false
open Go.Aw Go.RowKit
def tbShape159_3 : List (Nat × List Nat) := [(0, []), (1, [0]), (2, [0, 1]), (3, [0, 1, 2]), (4, [0, 1, 2, 3]), (5, [0, 1, 2, 3, 4]), (6, [0, 1, 2, 3, 4, 5]), (7, [0, 1, 2, 3, 4, 5, 6]), (8, [0, 1, 2, 3, 4, 5, 6, 7]), (9, [0, 1, 2, 3, 4, 5, 6, 7, 8]), (10, [0, 1, 2, 3, 4, 5, 6, 7, 8, 9]), (11, [0, 1, 2, 3, 4, 5, 6, 7, 8, 9, 10]), (12, [0, 1, 2, 3, 4, 5, 6, 7, 8, 9, 10, 11]), (13, [0, 1, 2, 3, 4, 5, 6, 7, 8, 9, 10]), (14, [0, 1, 2, 3, 4, 5, 6, 7, 8, 9, 10, 13]), (15, [0, 1, 2, 3, 4, 5, 6, 7, 8, 9, 10, 13, 14]), (16, [0, 1, 2, 3, 4, 5, 6, 7, 8, 9, 10, 13, 14, 15]), (17, [0, 1, 2, 3, 4, 5, 6, 7, 8, 9, 10, 11, 12, 13, 14, 15, 16]), (18, [0, 1, 2, 3, 4, 5, 6, 7, 8, 9, 10, 11, 12, 13, 14, 15, 16, 17]), (19, [0, 1, 2, 3, 4, 5, 6, 7, 8, 9, 10, 11, 12, 13, 14, 15, 16, 17, 18]), (20, [0, 1, 2, 3, 4, 5, 6, 7, 8, 9, 10, 11, 12, 13, 14, 15, 16, 17, 18, 19]), (21, [0, 1, 2, 3, 4, 5, 6, 7, 8, 9, 10, 11, 12, 13, 14, 15, 16, 17, 18, 19, 20]), (22, [0, 1, 2, 3, 4, 5, 6, 7, 8, 9, 10, 11, 12, 13, 14, 15, 16, 17, 18, 19, 20, 21]), (23, [0, 1, 2, 3, 4, 5, 6, 7, 8, 9, 10, 11, 12, 13, 14, 15, 16, 17, 18, 19, 20, 21, 22]), (24, [0, 1, 2, 3, 4, 5, 6, 7, 8, 9, 10, 11, 12, 13, 14, 15, 16, 17, 18, 19, 20]), (25, [0, 1, 2, 3, 4, 5, 6, 7, 8, 9, 10, 11, 12, 13, 14, 15, 16, 17, 18, 19, 20, 24]), (26, [0, 1, 2, 3, 4, 5, 6, 7, 8, 9, 10, 11, 12, 13, 14, 15, 16, 17, 18, 19, 20]), (27, [0, 1, 2, 3, 4, 5, 6, 7, 8, 9, 10, 11, 12, 13, 14, 15, 16, 17, 18, 19, 20, 26]), (28, [0, 1, 2, 3, 4, 5, 6, 7, 8, 9, 10, 11, 12, 13, 14, 15, 16, 17, 18, 19, 20, 24, 25, 26, 27]), (29, [0, 1, 2, 3, 4, 5, 6, 7, 8, 9, 10, 11, 12, 13, 14, 15, 16, 17, 18, 19, 20, 24, 25, 26, 27, 28]), (30, [0, 1, 2, 3, 4, 5, 6, 7, 8, 9, 10, 11, 12, 13, 14, 15, 16, 17, 18, 19, 20, 24, 25, 26, 27, 28, 29]), (31, [0, 1, 2, 3, 4, 5, 6, 7, 8, 9, 10, 11, 12, 13, 14, 15, 16, 17, 18, 19, 20, 24, 25, 26, 27, 28, 29, 30]), (32, [0, 1, 2, 3, 4, 5, 6, 7, 8, 9, 10, 11, 12, 13, 14, 15, 16, 17, 18, 19, 20, 21, 22, 23, 24, 25, 26, 27, 28, 29, 30, 31]), (33, [0, 1, 2, 3, 4, 5, 6, 7, 8, 9, 10, 11, 12, 13, 14, 15, 16, 17, 18, 19, 20, 21, 22, 23, 24, 25, 26, 27, 28, 29, 30, 31, 32])]
def tbShape159_13 : List (Nat × List Nat) := [(0, []), (1, [0]), (2, []), (3, [0, 1, 2]), (4, [0, 1, 2, 3]), (5, []), (6, []), (7, [6]), (8, [6, 7]), (9, [5, 6, 7, 8]), (10, [0, 1, 2, 3, 4, 5, 6, 7, 8, 9]), (11, [0, 1, 2, 3, 4, 5, 6, 7, 8, 9, 10])]
attribute [local irreducible] WL AC WD WE MStep OkOp

theorem rnone_spec (t : Tm) : FC Tryz.prog 161 [aT t] (.bool (decide (t = zT))) := by
  refine FC_intro hty Tryz.func161 rfl rfl rfl fun w0 => ?_
  repeat' (first | refine WL_p hty rfl rfl ?_ | refine WL_nil ?_ | refine AC_seq ?_ | refine AC_region ?_ | refine AC_skip ?_ | refine AC_ret ?_ | refine WL_ung rfl rfl ?_ | refine WL_offT rfl rfl rfl ?_ | refine WL_offF rfl rfl rfl ?_ | refine WL_offU rfl rfl rfl ?_ | refine ends_bool rfl ?_ | refine WL_cmp rfl rfl rfl rfl (fun _ => ?_) (fun _ => ?_))
  · rename_i h1 h2 h3
    rw [rsT_length] at h3
    exact (decide_eq_true (Tm.ext h1 h2 (List.length_eq_zero_iff.1 (by omega)))).symm
  · rename_i h3
    rw [rsT_length] at h3
    exact (decide_eq_false fun h => h3 (by rw [h]; rfl)).symm
  · exact (decide_eq_false fun h => by subst h; contradiction).symm
  · exact (decide_eq_false fun h => by subst h; contradiction).symm

theorem in7_spec (n lo hi : Int) : FC Tryz.prog 52 [.int .i64 n, .int .i64 lo, .int .i64 hi] (.bool (inR n lo hi)) := by
  refine FC_intro hty Tryz.func52 rfl rfl rfl fun w0 => ?_
  repeat' (first | refine WL_p hty rfl rfl ?_ | refine WL_nil ?_ | refine AC_seq ?_ | refine AC_region ?_ | refine AC_skip ?_ | refine AC_ret ?_ | refine WL_ung rfl rfl ?_ | refine WL_offT rfl rfl rfl ?_ | refine WL_offF rfl rfl rfl ?_ | refine WL_offU rfl rfl rfl ?_ | refine ends_bool rfl ?_ | refine WL_cmp rfl rfl rfl rfl (fun _ => ?_) (fun _ => ?_))
  all_goals (simp_all [inR] <;> (try intro) <;> omega)

theorem open_spec (t : Tm) (v : Int) (h : t.size ≤ 1048576) : FC Tryz.prog 160 [aT t, .int .i64 v] (.bool (openT t v)) := by
  refine FC_intro hty Tryz.func160 rfl rfl rfl fun w0 => ?_
  repeat' (first | refine WL_call 0 rfl (scope_spec t v 65536 h) rfl rfl rfl ?_ | refine WL_p hty rfl rfl ?_ | refine WL_nil ?_ | refine AC_seq ?_ | refine AC_region ?_ | refine AC_skip ?_ | refine AC_ret ?_ | refine ends_bool rfl ?_)
  all_goals rfl

set_option maxRecDepth 4000 in
set_option maxHeartbeats 4000000 in
theorem arg_spec (b : Bl) (a : Ar) (i : Int) (hb : b.size ≤ 1048576) (ha : a.size ≤ 1048576) (hi0 : 0 ≤ i) (hi1 : i ≤ 1048576) : FC Tryz.prog 159 [aB b, aA a, .int .i64 i] (.bool (argB b a i)) := by
  have hsl := len_le_sizesS b.sorts
  unfold Bl.size at hb
  unfold Ar.size at ha
  have hd := len_le_sizes a.dom
  have hx := len_le_sizes a.idx
  have hw : IntKind.i64.wrap (((rsS b.sorts).length : Int) - 1) = (b.sorts.length : Int) - 1 := by rw [rsS_length]; exact wrap_ok (n := (b.sorts.length : Int) - 1) (by omega) (by omega)
  have hiF := in7_spec a.sort 0 (IntKind.i64.wrap (((rsS b.sorts).length : Int) - 1))
  obtain ⟨rc, tt, dd, so, ix⟩ := a
  simp only at ha hd hx hiF
  have hwd : IntKind.i64.wrap (((rsT dd).length : Int) + (rsT ix).length) = (dd.length : Int) + ix.length := by
    rw [rsT_length, rsT_length]; exact wrap_ok (n := (dd.length : Int) + ix.length) (by omega) (by omega)
  refine FC_intro hty Tryz.func159 rfl rfl rfl fun w0 => ?_
  cases rc
  · repeat' (first | refine WL_callB rfl (open_spec tt i (by omega)) rfl (fun _ => ?_) (fun _ => ?_) | refine WL_p hty rfl rfl ?_ | refine WL_nil ?_ | refine AC_seq ?_ | refine AC_region ?_ | refine AC_block ?_ | refine AC_skip ?_ | refine AC_condT rfl ?_ | refine AC_condF rfl ?_ | refine AC_exit ?_ | refine AC_ret ?_ | refine WL_ung rfl rfl ?_ | refine WL_offT rfl rfl rfl ?_ | refine WL_offF rfl rfl rfl ?_ | refine WL_offU rfl rfl rfl ?_ | refine WL_m rfl (m_idxN hty rfl rfl rfl (by assumption) rfl) ?_ | refine ends_bool rfl ?_ | refine WL_cmp rfl rfl rfl rfl (fun _ => ?_) (fun _ => ?_) | refine AC_cond rfl (fun _ => ?_) (fun _ => ?_))
    all_goals show _ = (openT tt i && (decide ((dd.length : Int) + ix.length = 0) && decide (so = 0)))
    · rename_i h1 h2 h3
      rw [h1, decide_eq_true (hwd.symm.trans h2), decide_eq_true h3]; rfl
    · rename_i h1 h2 h3
      rw [h1, decide_eq_true (hwd.symm.trans h2), decide_eq_false h3]; rfl
    · rename_i h1 h2
      rw [h1, decide_eq_false (fun q => h2 (hwd.trans q))]; rfl
    · rename_i h1
      rw [h1]; rfl
  have hae : argB b ⟨true, tt, dd, so, ix⟩ i = ((decide (tt = zT) && (decide (dd.length ≤ 12) && (inR so 0 ((b.sorts.length : Int) - 1) && decide (ix.length = idxN b so)))) && (openSeq i dd && ix.all fun t => openT t (i + dd.length))) := rfl
  by_cases hin : inR so 0 ((b.sorts.length : Int) - 1) = true
  · have hin2 := hin
    simp only [inR, Bool.and_eq_true, decide_eq_true_eq] at hin2
    obtain ⟨s, hs, hsm⟩ := get_of_lt (show so.toNat < b.sorts.length by omega)
    have rs := rsS_get hs
    have hiF := fc_eq hiF (show _ = AV.bool true by rw [hw, hin])
    have hix : idxN b so = s.idx.length := by unfold idxN; rw [hs]
    repeat' (first | refine AC_drawnE (id := 3) tbShape159_3 rfl (by kernel_rfl) ?_ | refine WE_callB rfl (rnone_spec _) rfl (fun _ => ?_) (fun _ => ?_) | refine WE_call 0 rfl hiF rfl rfl rfl ?_ | refine WE_m rfl (m_idxL hty rfl rfl rfl hin2.1 rs rfl) ?_ | refine WE_cons (.inl ⟨rfl, stepE_ok hty rfl rfl⟩) ?_ | refine WE_cons (.inl ⟨rfl, m_idxN hty rfl rfl rfl (by assumption) rfl⟩) ?_ | refine WE_ung rfl rfl ?_ | refine WE_offT rfl rfl rfl ?_ | refine WE_offF rfl rfl rfl ?_ | refine WE_offU rfl rfl rfl ?_ | refine WE_nil ⟨by kernel_rfl, ?_⟩ | refine WL_p hty rfl rfl ?_ | refine WL_nil ?_ | refine AC_seq ?_ | refine AC_region ?_ | refine AC_block ?_ | refine AC_skip ?_ | refine AC_condT rfl ?_ | refine AC_condF rfl ?_ | refine AC_exit ?_ | refine AC_ret ?_ | refine WL_ung rfl rfl ?_ | refine WL_offT rfl rfl rfl ?_ | refine WL_offF rfl rfl rfl ?_ | refine WL_offU rfl rfl rfl ?_ | refine WL_m rfl (m_idxN hty rfl rfl rfl (by assumption) rfl) ?_ | refine ends_bool rfl ?_ | refine WL_cmp rfl rfl rfl rfl (fun _ => ?_) (fun _ => ?_) | refine AC_cond rfl (fun _ => ?_) (fun _ => ?_) | refine WE_cmp rfl rfl rfl rfl (fun _ => ?_) (fun _ => ?_))
    · rename_i h1 h2
      have h2 : 12 < ((rsT dd).length : Int) := h2
      rw [rsT_length] at h2
      rw [hae, show decide (dd.length ≤ 12) = false from decide_eq_false (by omega)]; simp
    · rename_i h1 h2 h3
      have h3 : ((rsT ix).length : Int) ≠ (rsA s.idx).length := h3
      rw [rsT_length, rsA_length] at h3
      rw [hae, hix, show decide (ix.length = s.idx.length) = false from decide_eq_false (by omega)]; simp
    · rename_i h1 h2 h3
      have h1 : decide (tt = zT) = true := h1
      have h2 : ¬ 12 < ((rsT dd).length : Int) := h2
      have h3 : ¬ ((rsT ix).length : Int) ≠ (rsA s.idx).length := h3
      rw [rsT_length] at h2
      rw [rsT_length, rsA_length] at h3
      rw [h1, hin, show decide (dd.length ≤ 12) = true from decide_eq_true (by omega), hix, show decide (ix.length = s.idx.length) = true from decide_eq_true (by omega)] at hae
      simp only [Bool.true_and] at hae
      clear h1 hiF rs
      rw [hae]
      refine AC_for dd.length (fun j => openSeq i (dd.take j) = true) (fun j => ⟨envOf [(2, .int .i64 i), (3, .ptr 3 0), (4, .ptr 4 0), (7, .int .i64 (j : Nat))],
        bkOf [(3, .box [.lst 6 (rsS b.sorts) false, .lst 6 (rsC b.cons) false, .int .i64 b.elim]), (4, .box (cA ⟨true, tt, dd, so, ix⟩))]⟩) (less_sub ⟨⟨_, rfl, .inl ⟨.refl _, rfl⟩⟩, ⟨_, rfl, .inl ⟨.refl _, rfl⟩⟩, ⟨_, rfl, .inl ⟨.refl _, rfl⟩⟩, ⟨_, rfl, .inl ⟨.refl _, rfl⟩⟩, trivial⟩ ⟨⟨⟨_, rfl, .refl _⟩, rfl⟩, ⟨⟨_, rfl, .refl _⟩, rfl⟩, trivial⟩) rfl ?_
      intro j hj hI
      repeat' (first | refine WL_p hty rfl rfl ?_ | refine WL_nil ?_ | refine AC_seq ?_ | refine AC_region ?_ | refine AC_block ?_ | refine AC_skip ?_ | refine AC_condT rfl ?_ | refine AC_condF rfl ?_ | refine AC_exit ?_ | refine AC_ret ?_ | refine WL_ung rfl rfl ?_ | refine WL_offT rfl rfl rfl ?_ | refine WL_offF rfl rfl rfl ?_ | refine WL_offU rfl rfl rfl ?_ | refine WL_m rfl (m_idxN hty rfl rfl rfl (by assumption) rfl) ?_ | refine ends_bool rfl ?_)
      refine WL_cmp rfl rfl rfl rfl (fun hc => ?_) (fun hc => ?_)
      · have hc : (j : Int) < ((rsT dd).length : Int) := hc
        have hlt : j < dd.length := by rw [rsT_length] at hc; omega
        obtain ⟨k, hk, hmem⟩ := get_of_lt hlt
        have hks := size_le_sizes hmem
        have rk := rsT_get hk
        have hwr : IntKind.i64.wrap (i + (j : Nat)) = i + (j : Nat) := wrap_ok (n := i + (j : Nat)) (by omega) (by omega)
        have hop := open_spec k (IntKind.i64.wrap (i + (j : Nat))) (by omega)
        repeat' (first | refine WL_callB rfl hop rfl (fun _ => ?_) (fun _ => ?_) | refine WL_p hty rfl rfl ?_ | refine WL_nil ?_ | refine AC_seq ?_ | refine AC_region ?_ | refine AC_block ?_ | refine AC_skip ?_ | refine AC_condT rfl ?_ | refine AC_condF rfl ?_ | refine AC_exit ?_ | refine AC_ret ?_ | refine WL_ung rfl rfl ?_ | refine WL_offT rfl rfl rfl ?_ | refine WL_offF rfl rfl rfl ?_ | refine WL_offU rfl rfl rfl ?_ | refine WL_m rfl (m_idxN hty rfl rfl rfl (by assumption) rfl) ?_ | refine ends_bool rfl ?_ | refine WL_cmp rfl rfl rfl rfl (fun _ => ?_) (fun _ => ?_) | refine AC_cond rfl (fun _ => ?_) (fun _ => ?_))
        all_goals (rename_i hb; rw [hwr] at hb)
        · refine ⟨hlt, by rw [openSeq_take_succ hk, hI, hb]; rfl, (less_sub ⟨⟨_, rfl, .inl ⟨.refl _, rfl⟩⟩, ⟨_, rfl, .inl ⟨.refl _, rfl⟩⟩, ⟨_, rfl, .inl ⟨.refl _, rfl⟩⟩, ⟨_, rfl, see_eq ?_ rfl⟩, trivial⟩ ⟨⟨⟨_, rfl, .refl _⟩, rfl⟩, ⟨⟨_, rfl, .refl _⟩, rfl⟩, trivial⟩)⟩
          exact congrArg (AV.int .i64) ((wrap_ok (by omega) (by omega)).trans (by omega))
        · rw [openSeq_split hk, hb]; simp
      · have hc : ¬ (j : Int) < ((rsT dd).length : Int) := hc
        obtain rfl : j = dd.length := by rw [rsT_length] at hc; omega
        rw [List.take_length] at hI
        rw [hI, Bool.true_and]
        repeat' (first | refine WL_p hty rfl rfl ?_ | refine WL_nil ?_ | refine AC_seq ?_ | refine AC_region ?_ | refine AC_block ?_ | refine AC_skip ?_ | refine AC_condT rfl ?_ | refine AC_condF rfl ?_ | refine AC_exit ?_ | refine AC_ret ?_ | refine WL_ung rfl rfl ?_ | refine WL_offT rfl rfl rfl ?_ | refine WL_offF rfl rfl rfl ?_ | refine WL_offU rfl rfl rfl ?_ | refine WL_m rfl (m_idxN hty rfl rfl rfl (by assumption) rfl) ?_ | refine ends_bool rfl ?_ | refine WL_cmp rfl rfl rfl rfl (fun _ => ?_) (fun _ => ?_) | refine AC_cond rfl (fun _ => ?_) (fun _ => ?_))
        refine AC_for ix.length (fun j => (ix.take j).all (fun t => openT t (i + dd.length)) = true) (fun j => ⟨envOf [(2, .int .i64 i), (3, .ptr 3 0), (4, .ptr 4 0), (8, .int .i64 (j : Nat))],
          bkOf [(3, .box [.lst 6 (rsS b.sorts) false, .lst 6 (rsC b.cons) false, .int .i64 b.elim]), (4, .box (cA ⟨true, tt, dd, so, ix⟩))]⟩) (less_sub ⟨⟨_, rfl, .inl ⟨.refl _, rfl⟩⟩, ⟨_, rfl, .inl ⟨.refl _, rfl⟩⟩, ⟨_, rfl, .inl ⟨.refl _, rfl⟩⟩, ⟨_, rfl, .inl ⟨.refl _, rfl⟩⟩, trivial⟩ ⟨⟨⟨_, rfl, .refl _⟩, rfl⟩, ⟨⟨_, rfl, .refl _⟩, rfl⟩, trivial⟩) rfl ?_
        intro j hj hI
        repeat' (first | refine WL_p hty rfl rfl ?_ | refine WL_nil ?_ | refine AC_seq ?_ | refine AC_region ?_ | refine AC_block ?_ | refine AC_skip ?_ | refine AC_condT rfl ?_ | refine AC_condF rfl ?_ | refine AC_exit ?_ | refine AC_ret ?_ | refine WL_ung rfl rfl ?_ | refine WL_offT rfl rfl rfl ?_ | refine WL_offF rfl rfl rfl ?_ | refine WL_offU rfl rfl rfl ?_ | refine WL_m rfl (m_idxN hty rfl rfl rfl (by assumption) rfl) ?_ | refine ends_bool rfl ?_)
        refine WL_cmp rfl rfl rfl rfl (fun hc => ?_) (fun hc => ?_)
        · have hc : (j : Int) < ((rsT ix).length : Int) := hc
          have hlt : j < ix.length := by rw [rsT_length] at hc; omega
          obtain ⟨k, hk, hmem⟩ := get_of_lt hlt
          have hks := size_le_sizes hmem
          have rk := rsT_get hk
          have hwr : IntKind.i64.wrap (i + ((rsT dd).length : Nat)) = i + (dd.length : Nat) := by rw [rsT_length]; exact wrap_ok (n := i + (dd.length : Nat)) (by omega) (by omega)
          have hop := open_spec k (IntKind.i64.wrap (i + ((rsT dd).length : Nat))) (by omega)
          repeat' (first | refine AC_drawnE (id := 13) tbShape159_13 rfl (by kernel_rfl) ?_ | refine WE_callB rfl hop rfl (fun _ => ?_) (fun _ => ?_) | refine WE_cons (.inl ⟨rfl, stepE_ok hty rfl rfl⟩) ?_ | refine WE_cons (.inl ⟨rfl, m_idxN hty rfl rfl rfl (by assumption) rfl⟩) ?_ | refine WE_ung rfl rfl ?_ | refine WE_offT rfl rfl rfl ?_ | refine WE_offF rfl rfl rfl ?_ | refine WE_offU rfl rfl rfl ?_ | refine WE_nil ⟨by kernel_rfl, ?_⟩ | refine WL_p hty rfl rfl ?_ | refine WL_nil ?_ | refine AC_seq ?_ | refine AC_region ?_ | refine AC_block ?_ | refine AC_skip ?_ | refine AC_condT rfl ?_ | refine AC_condF rfl ?_ | refine AC_exit ?_ | refine AC_ret ?_ | refine WL_ung rfl rfl ?_ | refine WL_offT rfl rfl rfl ?_ | refine WL_offF rfl rfl rfl ?_ | refine WL_offU rfl rfl rfl ?_ | refine WL_m rfl (m_idxN hty rfl rfl rfl (by assumption) rfl) ?_ | refine ends_bool rfl ?_ | refine WL_cmp rfl rfl rfl rfl (fun _ => ?_) (fun _ => ?_) | refine AC_cond rfl (fun _ => ?_) (fun _ => ?_) | refine WE_cmp rfl rfl rfl rfl (fun _ => ?_) (fun _ => ?_))
          all_goals (rename_i hb; rw [hwr] at hb)
          · refine ⟨hlt, by rw [List.take_add_one, hk, Option.toList_some, List.all_append, hI]; simp [hb], (less_sub ⟨⟨_, rfl, .inl ⟨.refl _, rfl⟩⟩, ⟨_, rfl, .inl ⟨.refl _, rfl⟩⟩, ⟨_, rfl, .inl ⟨.refl _, rfl⟩⟩, ⟨_, rfl, see_eq ?_ rfl⟩, trivial⟩ ⟨⟨⟨_, rfl, .refl _⟩, rfl⟩, ⟨⟨_, rfl, .refl _⟩, rfl⟩, trivial⟩)⟩
            exact congrArg (AV.int .i64) ((wrap_ok (by omega) (by omega)).trans (by omega))
          · exact (List.all_eq_false.2 ⟨k, hmem, by simp [hb]⟩).symm
        · have hc : ¬ (j : Int) < ((rsT ix).length : Int) := hc
          obtain rfl : j = ix.length := by rw [rsT_length] at hc; omega
          rw [List.take_length] at hI
          repeat' (first | refine WL_p hty rfl rfl ?_ | refine WL_nil ?_ | refine AC_seq ?_ | refine AC_region ?_ | refine AC_block ?_ | refine AC_skip ?_ | refine AC_condT rfl ?_ | refine AC_condF rfl ?_ | refine AC_exit ?_ | refine AC_ret ?_ | refine WL_ung rfl rfl ?_ | refine WL_offT rfl rfl rfl ?_ | refine WL_offF rfl rfl rfl ?_ | refine WL_offU rfl rfl rfl ?_ | refine WL_m rfl (m_idxN hty rfl rfl rfl (by assumption) rfl) ?_ | refine ends_bool rfl ?_ | refine WL_cmp rfl rfl rfl rfl (fun _ => ?_) (fun _ => ?_) | refine AC_cond rfl (fun _ => ?_) (fun _ => ?_))
          exact hI.symm
    · rename_i h1
      have h1 : decide (tt = zT) = false := h1
      rw [hae, h1]; rfl
  · have hiF := fc_eq hiF (show _ = AV.bool false by rw [hw, Bool.eq_false_iff.2 hin])
    repeat' (first | refine AC_drawnE (id := 3) tbShape159_3 rfl (by kernel_rfl) ?_ | refine WE_callB rfl (rnone_spec _) rfl (fun _ => ?_) (fun _ => ?_) | refine WE_call 0 rfl hiF rfl rfl rfl ?_ | refine WE_cons (.inl ⟨rfl, stepE_ok hty rfl rfl⟩) ?_ | refine WE_cons (.inl ⟨rfl, m_idxN hty rfl rfl rfl (by assumption) rfl⟩) ?_ | refine WE_ung rfl rfl ?_ | refine WE_offT rfl rfl rfl ?_ | refine WE_offF rfl rfl rfl ?_ | refine WE_offU rfl rfl rfl ?_ | refine WE_nil ⟨by kernel_rfl, ?_⟩ | refine WL_p hty rfl rfl ?_ | refine WL_nil ?_ | refine AC_seq ?_ | refine AC_region ?_ | refine AC_block ?_ | refine AC_skip ?_ | refine AC_condT rfl ?_ | refine AC_condF rfl ?_ | refine AC_exit ?_ | refine AC_ret ?_ | refine WL_ung rfl rfl ?_ | refine WL_offT rfl rfl rfl ?_ | refine WL_offF rfl rfl rfl ?_ | refine WL_offU rfl rfl rfl ?_ | refine WL_m rfl (m_idxN hty rfl rfl rfl (by assumption) rfl) ?_ | refine ends_bool rfl ?_ | refine WL_cmp rfl rfl rfl rfl (fun _ => ?_) (fun _ => ?_) | refine AC_cond rfl (fun _ => ?_) (fun _ => ?_) | refine WE_cmp rfl rfl rfl rfl (fun _ => ?_) (fun _ => ?_))
    all_goals rw [hae, Bool.eq_false_iff.2 hin]; simp

end Go.Proofs.YtlonpgdnmngnmaaGreat

/-
  The document's answer: the constants of a block, how many, which.
-/
namespace Go.Proofs.YtlonpgdnmngnmaaGreat
set_option linter.unusedSimpArgs false
set_option linter.unusedVariables false
open Go.Aw Go.RowKit
def tbDocN47_1 : List (Nat × List Nat) := [(0, []), (1, [0]), (2, [0, 1]), (3, []), (4, []), (5, [0, 1, 4]), (6, [0, 1, 3, 4, 5]), (7, [0, 1, 2, 3, 4, 5, 6]), (8, []), (9, [8]), (10, [8, 9]), (11, [0, 1, 2, 3, 4, 5, 6, 7, 8, 9, 10]), (12, [0, 1, 2, 3, 4, 5, 6, 7, 8, 9, 10, 11])]
def tbDocN28_3 : List (Nat × List Nat) := [(0, []), (1, []), (2, [1]), (3, [0, 1, 2]), (4, []), (5, []), (6, [1, 2, 5]), (7, [1, 2, 4, 5, 6]), (8, [0, 1, 2, 3, 4, 5, 6, 7]), (9, []), (10, [0, 1, 2, 3, 4, 5, 6, 7, 8, 9]), (11, [0, 1, 2, 3, 4, 5, 6, 7, 8, 9, 10])]
def tbDocN75_3 : List (Nat × List Nat) := [(0, []), (1, []), (2, [1]), (3, [0, 1, 2]), (4, []), (5, []), (6, [1, 2, 5]), (7, [1, 2, 4, 5, 6]), (8, [0, 1, 2, 3, 4, 5, 6, 7]), (9, []), (10, [9]), (11, [9, 10]), (12, [0, 1, 2, 3, 4, 5, 6, 7, 8, 9, 10, 11]), (13, []), (14, [0, 1, 2, 3, 4, 5, 6, 7, 8, 9, 10, 11, 12, 13]), (15, [0, 1, 2, 3, 4, 5, 6, 7, 8, 9, 10, 11, 12, 13, 14])]
def tbDocN74_3 : List (Nat × List Nat) := [(0, []), (1, []), (2, [1]), (3, [0, 1, 2]), (4, []), (5, []), (6, [1, 2, 4, 5]), (7, [0, 1, 2, 3, 4, 5, 6]), (8, [0, 1, 2, 3, 4, 5, 6, 7])]
attribute [local irreducible] WL AC WD WE MStep OkOp

theorem ns_spec (b : Bl) : FC Tryz.prog 53 [aB b] (.int .i64 (b.sorts.length : Nat)) := by
  refine FC_intro hty Tryz.func53 rfl rfl rfl fun w0 => ?_
  repeat' (first | refine WL_p hty rfl rfl ?_ | refine WL_nil ?_ | refine AC_seq ?_ | refine AC_region ?_ | refine AC_skip ?_ | refine AC_ret ?_ | refine ends_bool rfl ?_)
  refine ends_int rfl ?_
  rw [rsS_length]

theorem rdecs_spec (b : Bl) (k : Nat) (hb : b.size ≤ 1048576) (hk : k ≤ b.sorts.length) : FC Tryz.prog 54 [aB b, .int .i64 (k : Nat)] (.int .i64 (decsN (b.sorts.take k) : Nat)) := by
  unfold Bl.size at hb
  have hsl := len_le_sizesS b.sorts
  refine FC_intro hty Tryz.func54 rfl rfl rfl fun w0 => ?_
  repeat' (first | refine WL_p hty rfl rfl ?_ | refine WL_nil ?_ | refine AC_seq ?_ | refine AC_region ?_ | refine AC_block ?_ | refine AC_skip ?_ | refine AC_condT rfl ?_ | refine AC_condF rfl ?_ | refine AC_exit ?_ | refine AC_ret ?_ | refine WL_ung rfl rfl ?_ | refine WL_offT rfl rfl rfl ?_ | refine WL_offF rfl rfl rfl ?_ | refine WL_offU rfl rfl rfl ?_ | refine WL_m rfl (m_idxN hty rfl rfl rfl (by assumption) rfl) ?_ | refine ends_bool rfl ?_ | refine WL_cmp rfl rfl rfl rfl (fun _ => ?_) (fun _ => ?_) | refine AC_cond rfl (fun _ => ?_) (fun _ => ?_))
  refine AC_for k (fun _ => True) (fun j => ⟨envOf [(1, .int .i64 (k : Nat)), (2, .ptr 2 0), (5, .int .i64 (decsN (b.sorts.take j) : Nat)), (6, .int .i64 (j : Nat))], bkOf [(2, .box (cB b))]⟩)
    (less_sub ⟨⟨_, rfl, .inl ⟨.refl _, rfl⟩⟩, ⟨_, rfl, .inl ⟨.refl _, rfl⟩⟩, ⟨_, rfl, .inl ⟨.refl _, rfl⟩⟩, ⟨_, rfl, .inl ⟨.refl _, rfl⟩⟩, trivial⟩ ⟨⟨⟨_, rfl, .refl _⟩, rfl⟩, trivial⟩) trivial ?_
  intro j hj _
  repeat' (first | refine WL_p hty rfl rfl ?_ | refine WL_nil ?_ | refine AC_seq ?_ | refine AC_region ?_ | refine AC_block ?_ | refine AC_skip ?_ | refine AC_condT rfl ?_ | refine AC_condF rfl ?_ | refine AC_exit ?_ | refine AC_ret ?_ | refine WL_ung rfl rfl ?_ | refine WL_offT rfl rfl rfl ?_ | refine WL_offF rfl rfl rfl ?_ | refine WL_offU rfl rfl rfl ?_ | refine WL_m rfl (m_idxN hty rfl rfl rfl (by assumption) rfl) ?_ | refine ends_bool rfl ?_)
  refine WL_cmp rfl rfl rfl rfl (fun hc => ?_) (fun hc => ?_)
  · have hlt : j < k := by omega
    have hin : (j : Int) < ((rsS b.sorts).length : Nat) := by rw [rsS_length]; omega
    obtain ⟨s, hs, hmem⟩ := get_of_lt (show j < b.sorts.length by omega)
    have rs := rsS_get hs
    have hle := decsN_le (b.sorts.take j)
    have hjl : (b.sorts.take j).length ≤ j := by rw [List.length_take]; omega
    have hts := decsN_take_succ hs
    obtain ⟨sx, sl, sd, st⟩ := s
    cases sd
    · repeat' (first | exact absurd hin (by assumption) | refine WL_p hty rfl rfl ?_ | refine WL_nil ?_ | refine AC_seq ?_ | refine AC_region ?_ | refine AC_block ?_ | refine AC_skip ?_ | refine AC_condT rfl ?_ | refine AC_condF rfl ?_ | refine AC_exit ?_ | refine AC_ret ?_ | refine WL_ung rfl rfl ?_ | refine WL_offT rfl rfl rfl ?_ | refine WL_offF rfl rfl rfl ?_ | refine WL_offU rfl rfl rfl ?_ | refine WL_m rfl (m_idxN hty rfl rfl rfl (by assumption) rfl) ?_ | refine ends_bool rfl ?_ | refine WL_cmp rfl rfl rfl rfl (fun _ => ?_) (fun _ => ?_) | refine AC_cond rfl (fun _ => ?_) (fun _ => ?_))
      refine ⟨hlt, trivial, (less_sub ⟨⟨_, rfl, .inl ⟨.refl _, rfl⟩⟩, ⟨_, rfl, .inl ⟨.refl _, rfl⟩⟩, ⟨_, rfl, see_eq ?_ rfl⟩, ⟨_, rfl, see_eq ?_ rfl⟩, trivial⟩ ⟨⟨⟨_, rfl, .refl _⟩, rfl⟩, trivial⟩)⟩
      · rw [hts]; rfl
      · exact congrArg (AV.int .i64) ((wrap_ok (by omega) (by omega)).trans (by omega))
    · repeat' (first | exact absurd hin (by assumption) | refine WL_p hty rfl rfl ?_ | refine WL_nil ?_ | refine AC_seq ?_ | refine AC_region ?_ | refine AC_block ?_ | refine AC_skip ?_ | refine AC_condT rfl ?_ | refine AC_condF rfl ?_ | refine AC_exit ?_ | refine AC_ret ?_ | refine WL_ung rfl rfl ?_ | refine WL_offT rfl rfl rfl ?_ | refine WL_offF rfl rfl rfl ?_ | refine WL_offU rfl rfl rfl ?_ | refine WL_m rfl (m_idxN hty rfl rfl rfl (by assumption) rfl) ?_ | refine ends_bool rfl ?_ | refine WL_cmp rfl rfl rfl rfl (fun _ => ?_) (fun _ => ?_) | refine AC_cond rfl (fun _ => ?_) (fun _ => ?_))
      refine ⟨hlt, trivial, (less_sub ⟨⟨_, rfl, .inl ⟨.refl _, rfl⟩⟩, ⟨_, rfl, .inl ⟨.refl _, rfl⟩⟩, ⟨_, rfl, see_eq ?_ rfl⟩, ⟨_, rfl, see_eq ?_ rfl⟩, trivial⟩ ⟨⟨⟨_, rfl, .refl _⟩, rfl⟩, trivial⟩)⟩
      · rw [hts]
        exact congrArg (AV.int .i64) ((wrap_ok (by omega) (by omega)).trans (by simp))
      · exact congrArg (AV.int .i64) ((wrap_ok (by omega) (by omega)).trans (by omega))
  · obtain rfl : j = k := by omega
    repeat' (first | refine WL_p hty rfl rfl ?_ | refine WL_nil ?_ | refine AC_seq ?_ | refine AC_region ?_ | refine AC_block ?_ | refine AC_skip ?_ | refine AC_condT rfl ?_ | refine AC_condF rfl ?_ | refine AC_exit ?_ | refine AC_ret ?_ | refine WL_ung rfl rfl ?_ | refine WL_offT rfl rfl rfl ?_ | refine WL_offF rfl rfl rfl ?_ | refine WL_offU rfl rfl rfl ?_ | refine WL_m rfl (m_idxN hty rfl rfl rfl (by assumption) rfl) ?_ | refine ends_bool rfl ?_ | refine WL_cmp rfl rfl rfl rfl (fun _ => ?_) (fun _ => ?_) | refine AC_cond rfl (fun _ => ?_) (fun _ => ?_))
    exact ends_int rfl rfl

theorem rdecsA_spec (b : Bl) (hb : b.size ≤ 1048576) : FC Tryz.prog 54 [aB b, .int .i64 (b.sorts.length : Nat)] (.int .i64 (decsN b.sorts : Nat)) := by
  have := rdecs_spec b b.sorts.length hb (Nat.le_refl _)
  rwa [List.take_length] at this

theorem rcount_spec (b : Bl) (hb : b.size ≤ 1048576) : FC Tryz.prog 47 [aB b] (.int .i64 (countN b : Nat)) := by
  have hd := rdecsA_spec b hb
  have hn := ns_spec b
  unfold Bl.size at hb
  have hsl := len_le_sizesS b.sorts
  have hcl := len_le_sizesC b.cons
  have hdl := decsN_le b.sorts
  refine FC_intro hty Tryz.func47 rfl rfl rfl fun w0 => ?_
  repeat' (first | refine AC_drawnE (id := 1) tbDocN47_1 rfl (by kernel_rfl) ?_ | refine WE_cons (.inl ⟨rfl, m_call 0 rfl hn rfl rfl rfl⟩) ?_ | refine WE_cons (.inl ⟨rfl, m_call 0 rfl hd rfl rfl rfl⟩) ?_ | refine WE_cons (.inl ⟨rfl, stepE_ok hty rfl rfl⟩) ?_ | refine WE_nil ⟨by kernel_rfl, ?_⟩ | refine WL_p hty rfl rfl ?_ | refine WL_nil ?_ | refine AC_seq ?_ | refine AC_region ?_ | refine AC_skip ?_ | refine AC_ret ?_ | refine ends_bool rfl ?_)
  refine ends_int rfl ?_
  rw [rsC_length]
  unfold countN
  rw [wrap_ok (n := 2 * (b.sorts.length : Int)) (by omega) (by omega), wrap_ok (n := 2 * (b.sorts.length : Int) + (decsN b.sorts : Int)) (by omega) (by omega)]
  exact (wrap_ok (by omega) (by omega)).trans (by omega)

theorem inR_iff {n lo hi : Int} : inR n lo hi = true ↔ lo ≤ n ∧ n ≤ hi := by simp [inR]
theorem inR_not {n lo hi : Int} : inR n lo hi = false ↔ ¬ (lo ≤ n ∧ n ≤ hi) := by rw [← inR_iff]; simp

theorem rformer_spec (b : Bl) (base k : Int) (hb : b.size ≤ 1048576) : FC Tryz.prog 73 [aB b, .int .i64 base, .int .i64 k] (.int .i64 (formerI b base k)) := by
  have hn := ns_spec b
  unfold Bl.size at hb
  have hsl := len_le_sizesS b.sorts
  have w1 : IntKind.i64.wrap ((b.sorts.length : Nat) - 1 : Int) = (b.sorts.length : Int) - 1 := wrap_ok (by omega) (by omega)
  refine FC_intro hty Tryz.func73 rfl rfl rfl fun w0 => ?_
  repeat' (first | refine WL_call 0 rfl hn rfl rfl rfl ?_ | refine WL_callB rfl (in7_spec _ _ _) rfl (fun _ => ?_) (fun _ => ?_) | refine WL_p hty rfl rfl ?_ | refine WL_nil ?_ | refine AC_seq ?_ | refine AC_region ?_ | refine AC_skip ?_ | refine AC_condT rfl ?_ | refine AC_condF rfl ?_ | refine AC_ret ?_ | refine WL_ung rfl rfl ?_ | refine WL_offT rfl rfl rfl ?_ | refine WL_offF rfl rfl rfl ?_ | refine WL_offU rfl rfl rfl ?_ | refine ends_bool rfl ?_ | refine WL_cmp rfl rfl rfl rfl (fun _ => ?_) (fun _ => ?_) | refine AC_cond rfl (fun _ => ?_) (fun _ => ?_))
  all_goals refine ends_int rfl ?_
  all_goals unfold formerI placeI
  all_goals simp only [w1, inR_iff, inR_not] at *
  · rw [if_neg (by omega), if_neg (by omega), if_neg (by omega), if_neg (by omega)]
    exact (wrap_ok (by omega) (by omega)).trans (by omega)
  · rw [if_neg (by omega), if_neg (by omega)]
    split
    · rfl
    · rw [if_pos (by omega)]
  · split
    · rfl
    · rw [if_pos (by omega)]

theorem rconstructor_spec (b : Bl) (base k : Int) (hb : b.size ≤ 1048576) : FC Tryz.prog 28 [aB b, .int .i64 base, .int .i64 k] (.int .i64 (constructorI b base k)) := by
  have hn := ns_spec b
  have hd := rdecsA_spec b hb
  unfold Bl.size at hb
  have hsl := len_le_sizesS b.sorts
  have hcl := len_le_sizesC b.cons
  have hdl := decsN_le b.sorts
  have w1 : IntKind.i64.wrap (((rsC b.cons).length : Nat) - 1 : Int) = (b.cons.length : Int) - 1 := by rw [rsC_length]; exact wrap_ok (by omega) (by omega)
  refine FC_intro hty Tryz.func28 rfl rfl rfl fun w0 => ?_
  repeat' (first | refine WL_call 0 rfl hn rfl rfl rfl ?_ | refine WL_callB rfl (in7_spec _ _ _) rfl (fun _ => ?_) (fun _ => ?_) | refine AC_drawnE (id := 3) tbDocN28_3 rfl (by kernel_rfl) ?_ | refine WE_cons (.inl ⟨rfl, m_call 0 rfl hn rfl rfl rfl⟩) ?_ | refine WE_cons (.inl ⟨rfl, m_call 0 rfl hd rfl rfl rfl⟩) ?_ | refine WE_cons (.inl ⟨rfl, stepE_ok hty rfl rfl⟩) ?_ | refine WE_nil ⟨by kernel_rfl, ?_⟩ | refine WL_p hty rfl rfl ?_ | refine WL_nil ?_ | refine AC_seq ?_ | refine AC_region ?_ | refine AC_skip ?_ | refine AC_condT rfl ?_ | refine AC_condF rfl ?_ | refine AC_ret ?_ | refine WL_ung rfl rfl ?_ | refine WL_offT rfl rfl rfl ?_ | refine WL_offF rfl rfl rfl ?_ | refine WL_offU rfl rfl rfl ?_ | refine ends_bool rfl ?_ | refine WL_cmp rfl rfl rfl rfl (fun _ => ?_) (fun _ => ?_) | refine AC_cond rfl (fun _ => ?_) (fun _ => ?_))
  all_goals refine ends_int rfl ?_
  all_goals unfold constructorI placeI
  all_goals simp only [w1, inR_iff, inR_not] at *
  · rw [if_neg (by omega), if_neg (by omega), if_neg (by omega), if_neg (by omega)]
    rw [wrap_ok (n := base + (b.sorts.length : Nat)) (by omega) (by omega), wrap_ok (n := base + (b.sorts.length : Nat) + (decsN b.sorts : Nat)) (by omega) (by omega)]
    exact (wrap_ok (by omega) (by omega)).trans (by omega)
  · rw [if_neg (by omega), if_neg (by omega)]
    split
    · rfl
    · rw [if_pos (by omega)]
  · split
    · rfl
    · rw [if_pos (by omega)]

theorem reliminator_spec (b : Bl) (base k : Int) (hb : b.size ≤ 1048576) : FC Tryz.prog 75 [aB b, .int .i64 base, .int .i64 k] (.int .i64 (eliminatorI b base k)) := by
  have hn := ns_spec b
  have hd := rdecsA_spec b hb
  unfold Bl.size at hb
  have hsl := len_le_sizesS b.sorts
  have hcl := len_le_sizesC b.cons
  have hdl := decsN_le b.sorts
  have w1 : IntKind.i64.wrap ((b.sorts.length : Nat) - 1 : Int) = (b.sorts.length : Int) - 1 := wrap_ok (by omega) (by omega)
  refine FC_intro hty Tryz.func75 rfl rfl rfl fun w0 => ?_
  repeat' (first | refine WL_call 0 rfl hn rfl rfl rfl ?_ | refine WL_callB rfl (in7_spec _ _ _) rfl (fun _ => ?_) (fun _ => ?_) | refine AC_drawnE (id := 3) tbDocN75_3 rfl (by kernel_rfl) ?_ | refine WE_cons (.inl ⟨rfl, m_call 0 rfl hn rfl rfl rfl⟩) ?_ | refine WE_cons (.inl ⟨rfl, m_call 0 rfl hd rfl rfl rfl⟩) ?_ | refine WE_cons (.inl ⟨rfl, stepE_ok hty rfl rfl⟩) ?_ | refine WE_nil ⟨by kernel_rfl, ?_⟩ | refine WL_p hty rfl rfl ?_ | refine WL_nil ?_ | refine AC_seq ?_ | refine AC_region ?_ | refine AC_skip ?_ | refine AC_condT rfl ?_ | refine AC_condF rfl ?_ | refine AC_ret ?_ | refine WL_ung rfl rfl ?_ | refine WL_offT rfl rfl rfl ?_ | refine WL_offF rfl rfl rfl ?_ | refine WL_offU rfl rfl rfl ?_ | refine ends_bool rfl ?_ | refine WL_cmp rfl rfl rfl rfl (fun _ => ?_) (fun _ => ?_) | refine AC_cond rfl (fun _ => ?_) (fun _ => ?_))
  all_goals refine ends_int rfl ?_
  all_goals unfold eliminatorI placeI
  all_goals simp only [w1, inR_iff, inR_not] at *
  · rw [if_neg (by omega), if_neg (by omega), if_neg (by omega), if_neg (by omega), rsC_length]
    rw [wrap_ok (n := base + (b.sorts.length : Nat)) (by omega) (by omega), wrap_ok (n := base + (b.sorts.length : Nat) + (decsN b.sorts : Nat)) (by omega) (by omega), wrap_ok (n := base + (b.sorts.length : Nat) + (decsN b.sorts : Nat) + (b.cons.length : Nat)) (by omega) (by omega)]
    exact (wrap_ok (by omega) (by omega)).trans (by omega)
  · rw [if_neg (by omega), if_neg (by omega)]
    split
    · rfl
    · rw [if_pos (by omega)]
  · split
    · rfl
    · rw [if_pos (by omega)]

set_option maxHeartbeats 4000000 in
theorem rdecoder_spec (b : Bl) (base k : Int) (hb : b.size ≤ 1048576) : FC Tryz.prog 74 [aB b, .int .i64 base, .int .i64 k] (.int .i64 (decoderI b base k)) := by
  have hn := ns_spec b
  have hb' := hb
  unfold Bl.size at hb
  have hsl := len_le_sizesS b.sorts
  have w1 : IntKind.i64.wrap ((b.sorts.length : Nat) - 1 : Int) = (b.sorts.length : Int) - 1 := wrap_ok (by omega) (by omega)
  by_cases hk : 0 ≤ k ∧ k < b.sorts.length
  · obtain ⟨s, hs, hsm⟩ := get_of_lt (show k.toNat < b.sorts.length by omega)
    have rs := rsS_get hs
    have hds : decS b k = s.dec := by unfold decS; rw [hs]
    have hd := rdecs_spec b k.toNat hb' (by omega)
    rw [show ((k.toNat : Nat) : Int) = k by omega] at hd
    have hdl := decsN_all b.sorts k.toNat
    have hdl2 := decsN_le b.sorts
    have hk1 := hk.1
    have hin : inR k 0 ((b.sorts.length : Int) - 1) = true := inR_iff.2 (by omega)
    have hlt : s.dec = true → decsN (b.sorts.take k.toNat) < decsN b.sorts := fun q => decsN_lt_all hk1 (hds.trans q)
    obtain ⟨sx, sl, sd, st⟩ := s
    simp only at hlt
    refine FC_intro hty Tryz.func74 rfl rfl rfl fun w0 => ?_
    cases sd
    all_goals
      repeat' (first | refine WL_call 0 rfl hn rfl rfl rfl ?_ | refine WL_callB rfl (in7_spec _ _ _) rfl (fun _ => ?_) (fun _ => ?_) | refine AC_drawnE (id := 3) tbDocN74_3 rfl (by kernel_rfl) ?_ | refine WE_cons (.inl ⟨rfl, m_call 0 rfl hn rfl rfl rfl⟩) ?_ | refine WE_cons (.inl ⟨rfl, m_call 0 rfl hd rfl rfl rfl⟩) ?_ | refine WL_m rfl (m_idxL hty rfl rfl rfl hk1 rs rfl) ?_ | refine WE_cons (.inl ⟨rfl, stepE_ok hty rfl rfl⟩) ?_ | refine WE_nil ⟨by kernel_rfl, ?_⟩ | refine WL_p hty rfl rfl ?_ | refine WL_nil ?_ | refine AC_seq ?_ | refine AC_region ?_ | refine AC_skip ?_ | refine AC_condT rfl ?_ | refine AC_condF rfl ?_ | refine AC_ret ?_ | refine WL_ung rfl rfl ?_ | refine WL_offT rfl rfl rfl ?_ | refine WL_offF rfl rfl rfl ?_ | refine WL_offU rfl rfl rfl ?_ | refine WL_m rfl (m_idxN hty rfl rfl rfl (by assumption) rfl) ?_ | refine ends_bool rfl ?_ | refine WL_cmp rfl rfl rfl rfl (fun _ => ?_) (fun _ => ?_) | refine AC_cond rfl (fun _ => ?_) (fun _ => ?_))
      all_goals refine ends_int rfl ?_
      all_goals unfold decoderI placeI
      all_goals simp only [w1, inR_iff, inR_not, hds, true_implies, reduceCtorEq, false_implies, Bool.false_eq_true, if_false, if_true] at *
      all_goals first
        | (exfalso; omega)
        | (rw [if_neg (by omega), if_neg (by omega), if_neg (by omega), if_neg (by omega), if_neg (by omega), if_neg (by omega)]
           rw [wrap_ok (n := base + (b.sorts.length : Nat)) (by omega) (by omega)]
           exact (wrap_ok (by omega) (by omega)).trans (by omega))
        | (repeat' split
           all_goals first
             | rfl
             | (exfalso; omega))
  · have hin : inR k 0 ((b.sorts.length : Int) - 1) = false := inR_not.2 (by omega)
    have hz : decoderI b base k = -1 := by
      unfold decoderI
      split
      · rfl
      · rw [if_pos (by omega)]
    rw [hz]
    refine FC_intro hty Tryz.func74 rfl rfl rfl fun w0 => ?_
    repeat' (first | (exfalso; have hq := ‹inR k 0 _ = true›; rw [w1, hin] at hq; cases hq; done) | refine WL_call 0 rfl hn rfl rfl rfl ?_ | refine WL_callB rfl (in7_spec _ _ _) rfl (fun _ => ?_) (fun _ => ?_) | refine WL_p hty rfl rfl ?_ | refine WL_nil ?_ | refine AC_seq ?_ | refine AC_region ?_ | refine AC_skip ?_ | refine AC_condT rfl ?_ | refine AC_condF rfl ?_ | refine AC_ret ?_ | refine WL_ung rfl rfl ?_ | refine WL_offT rfl rfl rfl ?_ | refine WL_offF rfl rfl rfl ?_ | refine WL_offU rfl rfl rfl ?_ | refine WL_m rfl (m_idxN hty rfl rfl rfl (by assumption) rfl) ?_ | refine ends_bool rfl ?_ | refine WL_cmp rfl rfl rfl rfl (fun _ => ?_) (fun _ => ?_) | refine AC_cond rfl (fun _ => ?_) (fun _ => ?_))
    all_goals exact ends_int rfl rfl

end Go.Proofs.YtlonpgdnmngnmaaGreat

/-
  The document's answer: which constant of a block a number is.
-/
namespace Go.Proofs.YtlonpgdnmngnmaaGreat
set_option linter.unusedSimpArgs false
set_option linter.unusedVariables false
open Go.Aw Go.RowKit
attribute [local irreducible] WL AC WD WE MStep OkOp

def noneS (b : Bl) (base n : Int) (i : Nat) : Prop := formerI b base i ≠ n ∧ decoderI b base i ≠ n ∧ eliminatorI b base i ≠ n

set_option maxHeartbeats 4000000 in
theorem rof_spec (b : Bl) (base n : Int) (hb : b.size ≤ 1048576) : FC Tryz.prog 165 [aB b, .int .i64 base, .int .i64 n] (.tup [.int .i64 (ofB b base n).1, .int .i64 (ofB b base n).2]) := by
  have hn := ns_spec b
  have f3 : ∀ k, FC Tryz.prog 73 [aB b, .int .i64 base, .int .i64 k] (.int .i64 (formerI b base k)) := fun k => rformer_spec b base k hb
  have f4 : ∀ k, FC Tryz.prog 74 [aB b, .int .i64 base, .int .i64 k] (.int .i64 (decoderI b base k)) := fun k => rdecoder_spec b base k hb
  have f5 : ∀ k, FC Tryz.prog 28 [aB b, .int .i64 base, .int .i64 k] (.int .i64 (constructorI b base k)) := fun k => rconstructor_spec b base k hb
  have f6 : ∀ k, FC Tryz.prog 75 [aB b, .int .i64 base, .int .i64 k] (.int .i64 (eliminatorI b base k)) := fun k => reliminator_spec b base k hb
  have hb' := hb
  unfold Bl.size at hb'
  have hsl := len_le_sizesS b.sorts
  have hcl := len_le_sizesC b.cons
  by_cases h0 : n < 0
  · have hz := ofB_neg (b := b) (base := base) h0
    have h0' : ¬ 0 ≤ n := by omega
    rw [hz]
    refine FC_intro hty Tryz.func165 rfl rfl rfl fun w0 => ?_
    repeat' (first | refine WL_p hty rfl rfl ?_ | refine WL_nil ?_ | refine AC_seq ?_ | refine AC_region ?_ | refine AC_block ?_ | refine AC_skip ?_ | refine AC_condT rfl ?_ | refine AC_condF rfl ?_ | refine AC_exit ?_ | refine AC_ret ?_ | refine WL_ung rfl rfl ?_ | refine WL_offT rfl rfl rfl ?_ | refine WL_offF rfl rfl rfl ?_ | refine WL_offU rfl rfl rfl ?_ | refine ends_bool rfl ?_ | refine WL_cmp rfl rfl rfl rfl (fun _ => ?_) (fun _ => ?_) | refine AC_cond rfl (fun _ => ?_) (fun _ => ?_))
    refine AC_for b.sorts.length (fun _ => True) (fun j => ⟨envOf [(1, .int .i64 base), (2, .int .i64 n), (3, .ptr 3 0), (8, .int .i64 (j : Nat))], bkOf [(3, .box (cB b))]⟩) (less_sub ⟨⟨_, rfl, .inl ⟨.refl _, rfl⟩⟩, ⟨_, rfl, .inl ⟨.refl _, rfl⟩⟩, ⟨_, rfl, .inl ⟨.refl _, rfl⟩⟩, ⟨_, rfl, .inl ⟨.refl _, rfl⟩⟩, trivial⟩ ⟨⟨⟨_, rfl, .refl _⟩, rfl⟩, trivial⟩) trivial ?_
    intro j hj _
    repeat' (first | refine WL_call 0 rfl hn rfl rfl rfl ?_ | refine WL_p hty rfl rfl ?_ | refine WL_nil ?_ | refine AC_seq ?_ | refine AC_region ?_ | refine AC_block ?_ | refine AC_skip ?_ | refine AC_condT rfl ?_ | refine AC_condF rfl ?_ | refine AC_exit ?_ | refine AC_ret ?_ | refine WL_ung rfl rfl ?_ | refine WL_offT rfl rfl rfl ?_ | refine WL_offF rfl rfl rfl ?_ | refine WL_offU rfl rfl rfl ?_ | refine ends_bool rfl ?_)
    refine WL_cmp rfl rfl rfl rfl (fun hc => ?_) (fun hc => ?_)
    · have hlt : j < b.sorts.length := by omega
      repeat' (first | exact absurd (by assumption) h0' | refine WL_call 0 rfl (f3 _) rfl rfl rfl ?_ | refine WL_call 0 rfl (f4 _) rfl rfl rfl ?_ | refine WL_call 0 rfl (f6 _) rfl rfl rfl ?_ | refine WL_p hty rfl rfl ?_ | refine WL_nil ?_ | refine AC_seq ?_ | refine AC_region ?_ | refine AC_block ?_ | refine AC_skip ?_ | refine AC_condT rfl ?_ | refine AC_condF rfl ?_ | refine AC_exit ?_ | refine AC_ret ?_ | refine WL_ung rfl rfl ?_ | refine WL_offT rfl rfl rfl ?_ | refine WL_offF rfl rfl rfl ?_ | refine WL_offU rfl rfl rfl ?_ | refine ends_bool rfl ?_ | refine WL_cmp rfl rfl rfl rfl (fun _ => ?_) (fun _ => ?_) | refine AC_cond rfl (fun _ => ?_) (fun _ => ?_))
      all_goals
        refine ⟨hlt, trivial, (less_sub ⟨⟨_, rfl, .inl ⟨.refl _, rfl⟩⟩, ⟨_, rfl, .inl ⟨.refl _, rfl⟩⟩, ⟨_, rfl, .inl ⟨.refl _, rfl⟩⟩, ⟨_, rfl, see_eq ?_ rfl⟩, trivial⟩ ⟨⟨⟨_, rfl, .refl _⟩, rfl⟩, trivial⟩)⟩
        exact congrArg (AV.int .i64) ((wrap_ok (by omega) (by omega)).trans (by omega))
    · repeat' (first | refine WL_p hty rfl rfl ?_ | refine WL_nil ?_ | refine AC_seq ?_ | refine AC_region ?_ | refine AC_block ?_ | refine AC_skip ?_ | refine AC_condT rfl ?_ | refine AC_condF rfl ?_ | refine AC_exit ?_ | refine AC_ret ?_ | refine WL_ung rfl rfl ?_ | refine WL_offT rfl rfl rfl ?_ | refine WL_offF rfl rfl rfl ?_ | refine WL_offU rfl rfl rfl ?_ | refine ends_bool rfl ?_ | refine WL_cmp rfl rfl rfl rfl (fun _ => ?_) (fun _ => ?_) | refine AC_cond rfl (fun _ => ?_) (fun _ => ?_))
      refine AC_for b.cons.length (fun _ => True) (fun j => ⟨envOf [(1, .int .i64 base), (2, .int .i64 n), (3, .ptr 3 0), (9, .int .i64 (j : Nat))], bkOf [(3, .box (cB b))]⟩) (less_sub ⟨⟨_, rfl, .inl ⟨.refl _, rfl⟩⟩, ⟨_, rfl, .inl ⟨.refl _, rfl⟩⟩, ⟨_, rfl, .inl ⟨.refl _, rfl⟩⟩, ⟨_, rfl, .inl ⟨.refl _, rfl⟩⟩, trivial⟩ ⟨⟨⟨_, rfl, .refl _⟩, rfl⟩, trivial⟩) trivial ?_
      intro j hj _
      repeat' (first | refine WL_p hty rfl rfl ?_ | refine WL_nil ?_ | refine AC_seq ?_ | refine AC_region ?_ | refine AC_block ?_ | refine AC_skip ?_ | refine AC_condT rfl ?_ | refine AC_condF rfl ?_ | refine AC_exit ?_ | refine AC_ret ?_ | refine WL_ung rfl rfl ?_ | refine WL_offT rfl rfl rfl ?_ | refine WL_offF rfl rfl rfl ?_ | refine WL_offU rfl rfl rfl ?_ | refine ends_bool rfl ?_)
      refine WL_cmp rfl rfl rfl rfl (fun hc => ?_) (fun hc => ?_)
      · have hlt : j < b.cons.length := by rw [rsC_length] at hc; omega
        repeat' (first | exact absurd (by assumption) h0' | refine WL_call 0 rfl (f5 _) rfl rfl rfl ?_ | refine WL_p hty rfl rfl ?_ | refine WL_nil ?_ | refine AC_seq ?_ | refine AC_region ?_ | refine AC_block ?_ | refine AC_skip ?_ | refine AC_condT rfl ?_ | refine AC_condF rfl ?_ | refine AC_exit ?_ | refine AC_ret ?_ | refine WL_ung rfl rfl ?_ | refine WL_offT rfl rfl rfl ?_ | refine WL_offF rfl rfl rfl ?_ | refine WL_offU rfl rfl rfl ?_ | refine ends_bool rfl ?_ | refine WL_cmp rfl rfl rfl rfl (fun _ => ?_) (fun _ => ?_) | refine AC_cond rfl (fun _ => ?_) (fun _ => ?_))
        all_goals
          refine ⟨hlt, trivial, (less_sub ⟨⟨_, rfl, .inl ⟨.refl _, rfl⟩⟩, ⟨_, rfl, .inl ⟨.refl _, rfl⟩⟩, ⟨_, rfl, .inl ⟨.refl _, rfl⟩⟩, ⟨_, rfl, see_eq ?_ rfl⟩, trivial⟩ ⟨⟨⟨_, rfl, .refl _⟩, rfl⟩, trivial⟩)⟩
          exact congrArg (AV.int .i64) ((wrap_ok (by omega) (by omega)).trans (by omega))
      · repeat' (first | refine WL_p hty rfl rfl ?_ | refine WL_nil ?_ | refine AC_seq ?_ | refine AC_region ?_ | refine AC_block ?_ | refine AC_skip ?_ | refine AC_condT rfl ?_ | refine AC_condF rfl ?_ | refine AC_exit ?_ | refine AC_ret ?_ | refine WL_ung rfl rfl ?_ | refine WL_offT rfl rfl rfl ?_ | refine WL_offF rfl rfl rfl ?_ | refine WL_offU rfl rfl rfl ?_ | refine ends_bool rfl ?_ | refine WL_cmp rfl rfl rfl rfl (fun _ => ?_) (fun _ => ?_) | refine AC_cond rfl (fun _ => ?_) (fun _ => ?_))
        exact ends_wk rfl rfl (.refl _)
  have h0 : 0 ≤ n := by omega
  refine FC_intro hty Tryz.func165 rfl rfl rfl fun w0 => ?_
  repeat' (first | refine WL_p hty rfl rfl ?_ | refine WL_nil ?_ | refine AC_seq ?_ | refine AC_region ?_ | refine AC_block ?_ | refine AC_skip ?_ | refine AC_condT rfl ?_ | refine AC_condF rfl ?_ | refine AC_exit ?_ | refine AC_ret ?_ | refine WL_ung rfl rfl ?_ | refine WL_offT rfl rfl rfl ?_ | refine WL_offF rfl rfl rfl ?_ | refine WL_offU rfl rfl rfl ?_ | refine ends_bool rfl ?_ | refine WL_cmp rfl rfl rfl rfl (fun _ => ?_) (fun _ => ?_) | refine AC_cond rfl (fun _ => ?_) (fun _ => ?_))
  refine AC_for b.sorts.length (fun j => ∀ i, i < j → noneS b base n i) (fun j => ⟨envOf [(1, .int .i64 base), (2, .int .i64 n), (3, .ptr 3 0), (8, .int .i64 (j : Nat))], bkOf [(3, .box (cB b))]⟩) (less_sub ⟨⟨_, rfl, .inl ⟨.refl _, rfl⟩⟩, ⟨_, rfl, .inl ⟨.refl _, rfl⟩⟩, ⟨_, rfl, .inl ⟨.refl _, rfl⟩⟩, ⟨_, rfl, .inl ⟨.refl _, rfl⟩⟩, trivial⟩ ⟨⟨⟨_, rfl, .refl _⟩, rfl⟩, trivial⟩) (fun i hi => absurd hi (Nat.not_lt_zero _)) ?_
  intro j hj hI
  repeat' (first | refine WL_call 0 rfl hn rfl rfl rfl ?_ | refine WL_p hty rfl rfl ?_ | refine WL_nil ?_ | refine AC_seq ?_ | refine AC_region ?_ | refine AC_block ?_ | refine AC_skip ?_ | refine AC_condT rfl ?_ | refine AC_condF rfl ?_ | refine AC_exit ?_ | refine AC_ret ?_ | refine WL_ung rfl rfl ?_ | refine WL_offT rfl rfl rfl ?_ | refine WL_offF rfl rfl rfl ?_ | refine WL_offU rfl rfl rfl ?_ | refine ends_bool rfl ?_)
  refine WL_cmp rfl rfl rfl rfl (fun hc => ?_) (fun hc => ?_)
  · have hlt : j < b.sorts.length := by omega
    repeat' (first | exact absurd h0 ‹_› | refine WL_call 0 rfl (f3 _) rfl rfl rfl ?_ | refine WL_call 0 rfl (f4 _) rfl rfl rfl ?_ | refine WL_call 0 rfl (f6 _) rfl rfl rfl ?_ | refine WL_p hty rfl rfl ?_ | refine WL_nil ?_ | refine AC_seq ?_ | refine AC_region ?_ | refine AC_block ?_ | refine AC_skip ?_ | refine AC_condT rfl ?_ | refine AC_condF rfl ?_ | refine AC_exit ?_ | refine AC_ret ?_ | refine WL_ung rfl rfl ?_ | refine WL_offT rfl rfl rfl ?_ | refine WL_offF rfl rfl rfl ?_ | refine WL_offU rfl rfl rfl ?_ | refine ends_bool rfl ?_ | refine WL_cmp rfl rfl rfl rfl (fun _ => ?_) (fun _ => ?_) | refine AC_cond rfl (fun _ => ?_) (fun _ => ?_))
    all_goals first
      | (rw [ofB_former (k := j) (by assumption) h0]; exact ends_wk rfl rfl (.refl _))
      | (rw [ofB_decoder (k := j) (by assumption) h0]; exact ends_wk rfl rfl (.refl _))
      | (rw [ofB_eliminator (k := j) (by assumption) h0]; exact ends_wk rfl rfl (.refl _))
      | (refine ⟨hlt, fun i hi => ?_, (less_sub ⟨⟨_, rfl, .inl ⟨.refl _, rfl⟩⟩, ⟨_, rfl, .inl ⟨.refl _, rfl⟩⟩, ⟨_, rfl, .inl ⟨.refl _, rfl⟩⟩, ⟨_, rfl, see_eq ?_ rfl⟩, trivial⟩ ⟨⟨⟨_, rfl, .refl _⟩, rfl⟩, trivial⟩)⟩
         · rcases Nat.lt_or_ge i j with q | q
           · exact hI i q
           · obtain rfl : i = j := by omega
             exact ⟨by assumption, by assumption, by assumption⟩
         · exact congrArg (AV.int .i64) ((wrap_ok (by omega) (by omega)).trans (by omega)))
  · obtain rfl : j = b.sorts.length := by omega
    repeat' (first | refine WL_p hty rfl rfl ?_ | refine WL_nil ?_ | refine AC_seq ?_ | refine AC_region ?_ | refine AC_block ?_ | refine AC_skip ?_ | refine AC_condT rfl ?_ | refine AC_condF rfl ?_ | refine AC_exit ?_ | refine AC_ret ?_ | refine WL_ung rfl rfl ?_ | refine WL_offT rfl rfl rfl ?_ | refine WL_offF rfl rfl rfl ?_ | refine WL_offU rfl rfl rfl ?_ | refine ends_bool rfl ?_ | refine WL_cmp rfl rfl rfl rfl (fun _ => ?_) (fun _ => ?_) | refine AC_cond rfl (fun _ => ?_) (fun _ => ?_))
    refine AC_for b.cons.length (fun j => ∀ i : Nat, i < j → constructorI b base i ≠ n) (fun j => ⟨envOf [(1, .int .i64 base), (2, .int .i64 n), (3, .ptr 3 0), (9, .int .i64 (j : Nat))], bkOf [(3, .box (cB b))]⟩) (less_sub ⟨⟨_, rfl, .inl ⟨.refl _, rfl⟩⟩, ⟨_, rfl, .inl ⟨.refl _, rfl⟩⟩, ⟨_, rfl, .inl ⟨.refl _, rfl⟩⟩, ⟨_, rfl, .inl ⟨.refl _, rfl⟩⟩, trivial⟩ ⟨⟨⟨_, rfl, .refl _⟩, rfl⟩, trivial⟩) (fun i hi => absurd hi (Nat.not_lt_zero _)) ?_
    intro j hj hI2
    repeat' (first | refine WL_p hty rfl rfl ?_ | refine WL_nil ?_ | refine AC_seq ?_ | refine AC_region ?_ | refine AC_block ?_ | refine AC_skip ?_ | refine AC_condT rfl ?_ | refine AC_condF rfl ?_ | refine AC_exit ?_ | refine AC_ret ?_ | refine WL_ung rfl rfl ?_ | refine WL_offT rfl rfl rfl ?_ | refine WL_offF rfl rfl rfl ?_ | refine WL_offU rfl rfl rfl ?_ | refine ends_bool rfl ?_)
    refine WL_cmp rfl rfl rfl rfl (fun hc => ?_) (fun hc => ?_)
    · have hlt : j < b.cons.length := by rw [rsC_length] at hc; omega
      repeat' (first | exact absurd h0 ‹_› | refine WL_call 0 rfl (f5 _) rfl rfl rfl ?_ | refine WL_p hty rfl rfl ?_ | refine WL_nil ?_ | refine AC_seq ?_ | refine AC_region ?_ | refine AC_block ?_ | refine AC_skip ?_ | refine AC_condT rfl ?_ | refine AC_condF rfl ?_ | refine AC_exit ?_ | refine AC_ret ?_ | refine WL_ung rfl rfl ?_ | refine WL_offT rfl rfl rfl ?_ | refine WL_offF rfl rfl rfl ?_ | refine WL_offU rfl rfl rfl ?_ | refine ends_bool rfl ?_ | refine WL_cmp rfl rfl rfl rfl (fun _ => ?_) (fun _ => ?_) | refine AC_cond rfl (fun _ => ?_) (fun _ => ?_))
      all_goals first
        | (rw [ofB_constructor (k := j) (by assumption) h0]; exact ends_wk rfl rfl (.refl _))
        | (refine ⟨hlt, fun i hi => ?_, (less_sub ⟨⟨_, rfl, .inl ⟨.refl _, rfl⟩⟩, ⟨_, rfl, .inl ⟨.refl _, rfl⟩⟩, ⟨_, rfl, .inl ⟨.refl _, rfl⟩⟩, ⟨_, rfl, see_eq ?_ rfl⟩, trivial⟩ ⟨⟨⟨_, rfl, .refl _⟩, rfl⟩, trivial⟩)⟩
           · rcases Nat.lt_or_ge i j with q | q
             · exact hI2 i q
             · obtain rfl : i = j := by omega
               assumption
           · exact congrArg (AV.int .i64) ((wrap_ok (by omega) (by omega)).trans (by omega)))
    · obtain rfl : j = b.cons.length := by rw [rsC_length] at hc; omega
      repeat' (first | refine WL_p hty rfl rfl ?_ | refine WL_nil ?_ | refine AC_seq ?_ | refine AC_region ?_ | refine AC_block ?_ | refine AC_skip ?_ | refine AC_condT rfl ?_ | refine AC_condF rfl ?_ | refine AC_exit ?_ | refine AC_ret ?_ | refine WL_ung rfl rfl ?_ | refine WL_offT rfl rfl rfl ?_ | refine WL_offF rfl rfl rfl ?_ | refine WL_offU rfl rfl rfl ?_ | refine ends_bool rfl ?_ | refine WL_cmp rfl rfl rfl rfl (fun _ => ?_) (fun _ => ?_) | refine AC_cond rfl (fun _ => ?_) (fun _ => ?_))
      rw [ofB_none (fun k hk => (hI k hk).1) (fun k hk => (hI k hk).2.1) hI2 (fun k hk => (hI k hk).2.2)]
      exact ends_wk rfl rfl (.refl _)

end Go.Proofs.YtlonpgdnmngnmaaGreat

/-
  The document's answer: whether a constructor has the right shape.
-/
namespace Go.Proofs.YtlonpgdnmngnmaaGreat
set_option linter.unusedSimpArgs false
set_option linter.unusedVariables false
open Go.Aw Go.RowKit
def tbShape2162_1 : List (Nat × List Nat) := [(0, []), (1, [0]), (2, []), (3, [2]), (4, [2, 3]), (5, [2, 3, 4]), (6, [0, 1, 2, 3, 4, 5]), (7, [0, 1, 2, 3, 4, 5, 6]), (8, [0, 1, 2, 3, 4, 5, 6, 7]), (9, [0, 1, 2, 3, 4, 5, 6, 7, 8]), (10, [0, 1, 2, 3, 4, 5, 6, 7, 8, 9]), (11, [0, 1, 2, 3, 4, 5, 6, 7, 8, 9, 10]), (12, [0, 1, 2, 3, 4, 5, 6, 7, 8, 9, 10, 11]), (13, [0, 1, 2, 3, 4, 5, 6, 7, 8, 9, 10, 11, 12]), (14, [0, 1, 2, 3, 4, 5, 6, 7, 8, 9, 10, 11, 12, 13]), (15, [0, 1, 2, 3, 4, 5, 6, 7, 8, 9, 10, 11, 12, 13, 14]), (16, [0, 1, 2, 3, 4, 5, 6, 7, 8, 9, 10, 11, 12, 13, 14, 15]), (17, [0, 1, 2, 3, 4, 5, 6, 7, 8, 9, 10, 11, 12, 13, 14, 15, 16]), (18, [0, 1, 2, 3, 4, 5, 6, 7, 8, 9, 10, 11, 12, 13, 14]), (19, [0, 1, 2, 3, 4, 5, 6, 7, 8, 9, 10, 11, 12, 13, 14, 18]), (20, [0, 1, 2, 3, 4, 5, 6, 7, 8, 9, 10, 11, 12, 13, 14]), (21, [0, 1, 2, 3, 4, 5, 6, 7, 8, 9, 10, 11, 12, 13, 14, 20]), (22, [0, 1, 2, 3, 4, 5, 6, 7, 8, 9, 10, 11, 12, 13, 14, 18, 19, 20, 21]), (23, [0, 1, 2, 3, 4, 5, 6, 7, 8, 9, 10, 11, 12, 13, 14, 18, 19, 20, 21, 22]), (24, [0, 1, 2, 3, 4, 5, 6, 7, 8, 9, 10, 11, 12, 13, 14, 18, 19, 20, 21, 22, 23]), (25, [0, 1, 2, 3, 4, 5, 6, 7, 8, 9, 10, 11, 12, 13, 14, 18, 19, 20, 21, 22, 23, 24]), (26, [0, 1, 2, 3, 4, 5, 6, 7, 8, 9, 10, 11, 12, 13, 14, 15, 16, 17, 18, 19, 20, 21, 22, 23, 24, 25]), (27, [0, 1, 2, 3, 4, 5, 6, 7, 8, 9, 10, 11, 12, 13, 14, 15, 16, 17, 18, 19, 20, 21, 22, 23, 24, 25, 26])]
def tbShape2162_6 : List (Nat × List Nat) := [(0, []), (1, []), (2, [1]), (3, []), (4, [1, 2, 3]), (5, [1, 2, 3, 4]), (6, []), (7, [0, 1, 2, 3, 4, 5, 6]), (8, [0, 1, 2, 3, 4, 5, 6, 7])]
def tbShape2162_11 : List (Nat × List Nat) := [(0, []), (1, [0]), (2, []), (3, [0, 1, 2]), (4, [0, 1, 2, 3]), (5, []), (6, [5]), (7, [5, 6]), (8, [0, 1, 2, 3, 4, 5, 6, 7]), (9, [0, 1, 2, 3, 4, 5, 6, 7, 8])]
attribute [local irreducible] WL AC WD WE MStep OkOp

set_option maxRecDepth 4000 in
set_option maxHeartbeats 4000000 in
theorem con_spec (b : Bl) (c : Cn) (hb : b.size ≤ 1048576) (ha : c.size ≤ 1048576) : FC Tryz.prog 162 [aB b, aC c] (.bool (conB b c)) := by
  have hsl := len_le_sizesS b.sorts
  have hb' := hb
  unfold Bl.size at hb'
  unfold Cn.size at ha
  have hd := len_le_sizesA c.args
  have hx := len_le_sizes c.idx
  have hw : IntKind.i64.wrap (((rsS b.sorts).length : Int) - 1) = (b.sorts.length : Int) - 1 := by rw [rsS_length]; exact wrap_ok (n := (b.sorts.length : Int) - 1) (by omega) (by omega)
  have hiF := in7_spec c.sort 0 (IntKind.i64.wrap (((rsS b.sorts).length : Int) - 1))
  obtain ⟨so, ar, ix, de⟩ := c
  simp only at ha hd hx hiF
  refine FC_intro hty Tryz.func162 rfl rfl rfl fun w0 => ?_
  have hae : conB b ⟨so, ar, ix, de⟩ = ((inR so 0 ((b.sorts.length : Int) - 1) && (decide (ar.length ≤ 12) && decide (ix.length = idxN b so))) &&
    (argSeq b 0 ar && ((ix.all fun t => openT t ar.length) && (if decS b so = true then openT de ar.length else decide (de = zT))))) := rfl
  by_cases hin : inR so 0 ((b.sorts.length : Int) - 1) = true
  · have hin2 := hin
    simp only [inR, Bool.and_eq_true, decide_eq_true_eq] at hin2
    obtain ⟨s, hs, hsm⟩ := get_of_lt (show so.toNat < b.sorts.length by omega)
    have rs := rsS_get hs
    have hiF := fc_eq hiF (show _ = AV.bool true by rw [hw, hin])
    have hix : idxN b so = s.idx.length := by unfold idxN; rw [hs]
    have hde : decS b so = s.dec := by unfold decS; rw [hs]
    repeat' (first | refine AC_drawnE (id := 1) tbShape2162_1 rfl (by kernel_rfl) ?_ | refine WE_call 0 rfl hiF rfl rfl rfl ?_ | refine WE_m rfl (m_idxL hty rfl rfl rfl hin2.1 rs rfl) ?_ | refine WE_cons (.inl ⟨rfl, stepE_ok hty rfl rfl⟩) ?_ | refine WE_cons (.inl ⟨rfl, m_idxN hty rfl rfl rfl (by assumption) rfl⟩) ?_ | refine WE_ung rfl rfl ?_ | refine WE_offT rfl rfl rfl ?_ | refine WE_offF rfl rfl rfl ?_ | refine WE_offU rfl rfl rfl ?_ | refine WE_nil ⟨by kernel_rfl, ?_⟩ | refine WL_p hty rfl rfl ?_ | refine WL_nil ?_ | refine AC_seq ?_ | refine AC_region ?_ | refine AC_block ?_ | refine AC_skip ?_ | refine AC_condT rfl ?_ | refine AC_condF rfl ?_ | refine AC_exit ?_ | refine AC_ret ?_ | refine WL_m rfl (m_idxN hty rfl rfl rfl (by assumption) rfl) ?_ | refine ends_bool rfl ?_ | refine WL_cmp rfl rfl rfl rfl (fun _ => ?_) (fun _ => ?_) | refine AC_cond rfl (fun _ => ?_) (fun _ => ?_) | refine WE_cmp rfl rfl rfl rfl (fun _ => ?_) (fun _ => ?_))
    · rename_i h2
      have h2 : 12 < ((rsA ar).length : Int) := h2
      rw [rsA_length] at h2
      rw [hae, show decide (ar.length ≤ 12) = false from decide_eq_false (by omega)]; simp
    · rename_i h2 h3
      have h3 : ((rsT ix).length : Int) ≠ (rsA s.idx).length := h3
      rw [rsT_length, rsA_length] at h3
      rw [hae, hix, show decide (ix.length = s.idx.length) = false from decide_eq_false (by omega)]; simp
    · rename_i h2 h3
      have h2 : ¬ 12 < ((rsA ar).length : Int) := h2
      have h3 : ¬ ((rsT ix).length : Int) ≠ (rsA s.idx).length := h3
      rw [rsA_length] at h2
      rw [rsT_length, rsA_length] at h3
      rw [hin, show decide (ar.length ≤ 12) = true from decide_eq_true (by omega), hix, show decide (ix.length = s.idx.length) = true from decide_eq_true (by omega), hde] at hae
      simp only [Bool.true_and] at hae
      clear hiF
      rw [hae]
      refine AC_for ar.length (fun j => argSeq b 0 (ar.take j) = true) (fun j => ⟨envOf [(2, .ptr 2 0), (3, .ptr 3 0), (5, .int .i64 (j : Nat))],
        bkOf [(2, .box [.lst 6 (rsS b.sorts) false, .lst 6 (rsC b.cons) false, .int .i64 b.elim]), (3, .box (cC ⟨so, ar, ix, de⟩))]⟩) (less_sub ⟨⟨_, rfl, .inl ⟨.refl _, rfl⟩⟩, ⟨_, rfl, .inl ⟨.refl _, rfl⟩⟩, ⟨_, rfl, .inl ⟨.refl _, rfl⟩⟩, trivial⟩ ⟨⟨⟨_, rfl, .refl _⟩, rfl⟩, ⟨⟨_, rfl, .refl _⟩, rfl⟩, trivial⟩) rfl ?_
      intro j hj hI
      repeat' (first | refine WL_p hty rfl rfl ?_ | refine WL_nil ?_ | refine AC_seq ?_ | refine AC_region ?_ | refine AC_block ?_ | refine AC_skip ?_ | refine AC_condT rfl ?_ | refine AC_condF rfl ?_ | refine AC_exit ?_ | refine AC_ret ?_ | refine WL_m rfl (m_idxN hty rfl rfl rfl (by assumption) rfl) ?_ | refine ends_bool rfl ?_)
      refine WL_cmp rfl rfl rfl rfl (fun hc => ?_) (fun hc => ?_)
      · have hc : (j : Int) < ((rsA ar).length : Int) := hc
        have hlt : j < ar.length := by rw [rsA_length] at hc; omega
        obtain ⟨k, hk, hmem⟩ := get_of_lt hlt
        have hks := size_le_sizesA hmem
        have rk := rsA_get hk
        have hop := arg_spec b k (j : Nat) hb (by omega) (by omega) (by omega)
        repeat' (first | refine AC_drawnE (id := 6) tbShape2162_6 rfl (by kernel_rfl) ?_ | refine WE_callB rfl hop rfl (fun _ => ?_) (fun _ => ?_) | refine WE_cons (.inl ⟨rfl, stepE_ok hty rfl rfl⟩) ?_ | refine WE_cons (.inl ⟨rfl, m_idxN hty rfl rfl rfl (by assumption) rfl⟩) ?_ | refine WE_ung rfl rfl ?_ | refine WE_offT rfl rfl rfl ?_ | refine WE_offF rfl rfl rfl ?_ | refine WE_offU rfl rfl rfl ?_ | refine WE_nil ⟨by kernel_rfl, ?_⟩ | refine WL_p hty rfl rfl ?_ | refine WL_nil ?_ | refine AC_seq ?_ | refine AC_region ?_ | refine AC_block ?_ | refine AC_skip ?_ | refine AC_condT rfl ?_ | refine AC_condF rfl ?_ | refine AC_exit ?_ | refine AC_ret ?_ | refine WL_m rfl (m_idxN hty rfl rfl rfl (by assumption) rfl) ?_ | refine ends_bool rfl ?_ | refine WL_cmp rfl rfl rfl rfl (fun _ => ?_) (fun _ => ?_) | refine AC_cond rfl (fun _ => ?_) (fun _ => ?_) | refine WE_cmp rfl rfl rfl rfl (fun _ => ?_) (fun _ => ?_))
        all_goals rename_i hq
        · refine ⟨hlt, by rw [argSeq_take_succ hk, hI, Int.zero_add, hq]; rfl, (less_sub ⟨⟨_, rfl, .inl ⟨.refl _, rfl⟩⟩, ⟨_, rfl, .inl ⟨.refl _, rfl⟩⟩, ⟨_, rfl, see_eq ?_ rfl⟩, trivial⟩ ⟨⟨⟨_, rfl, .refl _⟩, rfl⟩, ⟨⟨_, rfl, .refl _⟩, rfl⟩, trivial⟩)⟩
          exact congrArg (AV.int .i64) ((wrap_ok (by omega) (by omega)).trans (by omega))
        · rw [argSeq_split hk, Int.zero_add, hq]; simp
      · have hc : ¬ (j : Int) < ((rsA ar).length : Int) := hc
        obtain rfl : j = ar.length := by rw [rsA_length] at hc; omega
        rw [List.take_length] at hI
        rw [hI, Bool.true_and]
        repeat' (first | refine WL_p hty rfl rfl ?_ | refine WL_nil ?_ | refine AC_seq ?_ | refine AC_region ?_ | refine AC_block ?_ | refine AC_skip ?_ | refine AC_condT rfl ?_ | refine AC_condF rfl ?_ | refine AC_exit ?_ | refine AC_ret ?_ | refine WL_m rfl (m_idxN hty rfl rfl rfl (by assumption) rfl) ?_ | refine ends_bool rfl ?_ | refine WL_cmp rfl rfl rfl rfl (fun _ => ?_) (fun _ => ?_) | refine AC_cond rfl (fun _ => ?_) (fun _ => ?_))
        refine AC_for ix.length (fun j => (ix.take j).all (fun t => openT t ar.length) = true) (fun j => ⟨envOf [(2, .ptr 2 0), (3, .ptr 3 0), (6, .int .i64 (j : Nat))],
          bkOf [(2, .box [.lst 6 (rsS b.sorts) false, .lst 6 (rsC b.cons) false, .int .i64 b.elim]), (3, .box (cC ⟨so, ar, ix, de⟩))]⟩) (less_sub ⟨⟨_, rfl, .inl ⟨.refl _, rfl⟩⟩, ⟨_, rfl, .inl ⟨.refl _, rfl⟩⟩, ⟨_, rfl, .inl ⟨.refl _, rfl⟩⟩, trivial⟩ ⟨⟨⟨_, rfl, .refl _⟩, rfl⟩, ⟨⟨_, rfl, .refl _⟩, rfl⟩, trivial⟩) rfl ?_
        intro j hj hI
        repeat' (first | refine WL_p hty rfl rfl ?_ | refine WL_nil ?_ | refine AC_seq ?_ | refine AC_region ?_ | refine AC_block ?_ | refine AC_skip ?_ | refine AC_condT rfl ?_ | refine AC_condF rfl ?_ | refine AC_exit ?_ | refine AC_ret ?_ | refine WL_m rfl (m_idxN hty rfl rfl rfl (by assumption) rfl) ?_ | refine ends_bool rfl ?_)
        refine WL_cmp rfl rfl rfl rfl (fun hc => ?_) (fun hc => ?_)
        · have hc : (j : Int) < ((rsT ix).length : Int) := hc
          have hlt : j < ix.length := by rw [rsT_length] at hc; omega
          obtain ⟨k, hk, hmem⟩ := get_of_lt hlt
          have hks := size_le_sizes hmem
          have rk := rsT_get hk
          have hop := open_spec k ((rsA ar).length : Nat) (by omega)
          repeat' (first | refine AC_drawnE (id := 11) tbShape2162_11 rfl (by kernel_rfl) ?_ | refine WE_callB rfl hop rfl (fun _ => ?_) (fun _ => ?_) | refine WE_cons (.inl ⟨rfl, stepE_ok hty rfl rfl⟩) ?_ | refine WE_cons (.inl ⟨rfl, m_idxN hty rfl rfl rfl (by assumption) rfl⟩) ?_ | refine WE_ung rfl rfl ?_ | refine WE_offT rfl rfl rfl ?_ | refine WE_offF rfl rfl rfl ?_ | refine WE_offU rfl rfl rfl ?_ | refine WE_nil ⟨by kernel_rfl, ?_⟩ | refine WL_p hty rfl rfl ?_ | refine WL_nil ?_ | refine AC_seq ?_ | refine AC_region ?_ | refine AC_block ?_ | refine AC_skip ?_ | refine AC_condT rfl ?_ | refine AC_condF rfl ?_ | refine AC_exit ?_ | refine AC_ret ?_ | refine WL_m rfl (m_idxN hty rfl rfl rfl (by assumption) rfl) ?_ | refine ends_bool rfl ?_ | refine WL_cmp rfl rfl rfl rfl (fun _ => ?_) (fun _ => ?_) | refine AC_cond rfl (fun _ => ?_) (fun _ => ?_) | refine WE_cmp rfl rfl rfl rfl (fun _ => ?_) (fun _ => ?_))
          all_goals (rename_i hb; rw [rsA_length] at hb)
          · refine ⟨hlt, by rw [List.take_add_one, hk, Option.toList_some, List.all_append, hI]; simp [hb], (less_sub ⟨⟨_, rfl, .inl ⟨.refl _, rfl⟩⟩, ⟨_, rfl, .inl ⟨.refl _, rfl⟩⟩, ⟨_, rfl, see_eq ?_ rfl⟩, trivial⟩ ⟨⟨⟨_, rfl, .refl _⟩, rfl⟩, ⟨⟨_, rfl, .refl _⟩, rfl⟩, trivial⟩)⟩
            exact congrArg (AV.int .i64) ((wrap_ok (by omega) (by omega)).trans (by omega))
          · rw [List.all_eq_false.2 ⟨k, hmem, by simp [hb]⟩]; rfl
        · have hc : ¬ (j : Int) < ((rsT ix).length : Int) := hc
          obtain rfl : j = ix.length := by rw [rsT_length] at hc; omega
          rw [List.take_length] at hI
          rw [hI, Bool.true_and]
          have hop := open_spec de ((rsA ar).length : Nat) (by omega)
          rw [rsA_length] at hop
          obtain ⟨sx, sl, sd, st⟩ := s
          cases sd
          · repeat' (first | refine WL_m rfl (m_idxL hty rfl rfl rfl hin2.1 rs rfl) ?_ | refine WL_call 0 rfl (rnone_spec de) rfl rfl rfl ?_ | refine WL_p hty rfl rfl ?_ | refine WL_nil ?_ | refine AC_seq ?_ | refine AC_region ?_ | refine AC_block ?_ | refine AC_skip ?_ | refine AC_condT rfl ?_ | refine AC_condF rfl ?_ | refine AC_exit ?_ | refine AC_ret ?_ | refine WL_m rfl (m_idxN hty rfl rfl rfl (by assumption) rfl) ?_ | refine ends_bool rfl ?_ | refine WL_cmp rfl rfl rfl rfl (fun _ => ?_) (fun _ => ?_) | refine AC_cond rfl (fun _ => ?_) (fun _ => ?_))
            all_goals rfl
          · rw [← rsA_length ar] at hop
            repeat' (first | refine WL_m rfl (m_idxL hty rfl rfl rfl hin2.1 rs rfl) ?_ | refine WL_call 0 rfl hop rfl rfl rfl ?_ | refine WL_p hty rfl rfl ?_ | refine WL_nil ?_ | refine AC_seq ?_ | refine AC_region ?_ | refine AC_block ?_ | refine AC_skip ?_ | refine AC_condT rfl ?_ | refine AC_condF rfl ?_ | refine AC_exit ?_ | refine AC_ret ?_ | refine WL_m rfl (m_idxN hty rfl rfl rfl (by assumption) rfl) ?_ | refine ends_bool rfl ?_ | refine WL_cmp rfl rfl rfl rfl (fun _ => ?_) (fun _ => ?_) | refine AC_cond rfl (fun _ => ?_) (fun _ => ?_))
            all_goals rw [rsA_length]; rfl
  · have hiF := fc_eq hiF (show _ = AV.bool false by rw [hw, Bool.eq_false_iff.2 hin])
    repeat' (first | refine AC_drawnE (id := 1) tbShape2162_1 rfl (by kernel_rfl) ?_ | refine WE_call 0 rfl hiF rfl rfl rfl ?_ | refine WE_cons (.inl ⟨rfl, stepE_ok hty rfl rfl⟩) ?_ | refine WE_cons (.inl ⟨rfl, m_idxN hty rfl rfl rfl (by assumption) rfl⟩) ?_ | refine WE_ung rfl rfl ?_ | refine WE_offT rfl rfl rfl ?_ | refine WE_offF rfl rfl rfl ?_ | refine WE_offU rfl rfl rfl ?_ | refine WE_nil ⟨by kernel_rfl, ?_⟩ | refine WL_p hty rfl rfl ?_ | refine WL_nil ?_ | refine AC_seq ?_ | refine AC_region ?_ | refine AC_block ?_ | refine AC_skip ?_ | refine AC_condT rfl ?_ | refine AC_condF rfl ?_ | refine AC_exit ?_ | refine AC_ret ?_ | refine WL_m rfl (m_idxN hty rfl rfl rfl (by assumption) rfl) ?_ | refine ends_bool rfl ?_ | refine WL_cmp rfl rfl rfl rfl (fun _ => ?_) (fun _ => ?_) | refine AC_cond rfl (fun _ => ?_) (fun _ => ?_) | refine WE_cmp rfl rfl rfl rfl (fun _ => ?_) (fun _ => ?_))
    all_goals rw [hae, Bool.eq_false_iff.2 hin]; simp

end Go.Proofs.YtlonpgdnmngnmaaGreat

/-
  The document's answer: whether a block has the right shape.
-/
namespace Go.Proofs.YtlonpgdnmngnmaaGreat
set_option linter.unusedSimpArgs false
set_option linter.unusedVariables false
open Go.Aw Go.RowKit
def tbDocS116_13 : List (Nat × List Nat) := [(0, []), (1, []), (2, [1]), (3, []), (4, [1, 2, 3]), (5, [1, 2, 3, 4]), (6, []), (7, [0, 1, 2, 3, 4, 5, 6]), (8, [0, 1, 2, 3, 4, 5, 6, 7]), (9, [0, 1, 2, 3, 4, 5, 6, 7, 8]), (10, [0, 1, 2, 3, 4, 5, 6, 7, 8, 9]), (11, [0, 1, 2, 3, 4, 5, 6, 7, 8, 9, 10]), (12, [0, 1, 2, 3, 4, 5, 6, 7, 8, 9]), (13, [0, 1, 2, 3, 4, 5, 6, 7, 8, 9, 10, 11, 12]), (14, [0, 1, 2, 3, 4, 5, 6, 7, 8, 9, 10, 11, 12, 13]), (15, [0, 1, 2, 3, 4, 5, 6, 7, 8, 9, 10, 11, 12, 13, 14]), (16, [0, 1, 2, 3, 4, 5, 6, 7, 8, 9, 10, 11, 12, 13, 14, 15]), (17, [0, 1, 2, 3, 4, 5, 6, 7, 8, 9, 10, 11, 12, 13, 14, 15, 16]), (18, [0, 1, 2, 3, 4, 5, 6, 7, 8, 9, 10, 11, 12, 13, 14, 15, 16, 17]), (19, [0, 1, 2, 3, 4, 5, 6, 7, 8, 9, 10, 11, 12, 13, 14, 15, 16]), (20, [0, 1, 2, 3, 4, 5, 6, 7, 8, 9, 10, 11, 12, 13, 14, 15, 16, 17, 18, 19]), (21, [0, 1, 2, 3, 4, 5, 6, 7, 8, 9, 10, 11, 12, 13, 14, 15, 16, 17, 18, 19, 20]), (22, [0, 1, 2, 3, 4, 5, 6, 7, 8, 9, 10, 11, 12, 13, 14, 15, 16, 17, 18, 19, 20, 21]), (23, [0, 1, 2, 3, 4, 5, 6, 7, 8, 9, 10, 11, 12, 13, 14, 15, 16, 17, 18, 19, 20, 21, 22]), (24, [0, 1, 2, 3, 4, 5, 6, 7, 8, 9, 10, 11, 12, 13, 14, 15, 16, 17, 18, 19, 20, 21, 22, 23]), (25, [0, 1, 2, 3, 4, 5, 6, 7, 8, 9, 10, 11, 12, 13, 14, 15, 16, 17, 18, 19, 20, 21, 22, 23, 24]), (26, [0, 1, 2, 3, 4, 5, 6, 7, 8, 9, 10, 11, 12, 13, 14, 15, 16, 17, 18, 19, 20, 21, 22, 23, 24, 25]), (27, [0, 1, 2, 3, 4, 5, 6, 7, 8, 9, 10, 11, 12, 13, 14, 15, 16, 17, 18, 19, 20, 21, 22, 23, 24, 25, 26]), (28, [0, 1, 2, 3, 4, 5, 6, 7, 8, 9, 10, 11, 12, 13, 14, 15, 16, 17, 18, 19, 20, 21, 22, 23, 24, 25]), (29, [0, 1, 2, 3, 4, 5, 6, 7, 8, 9, 10, 11, 12, 13, 14, 15, 16, 17, 18, 19, 20, 21, 22, 23, 24, 25, 26, 27, 28]), (30, [0, 1, 2, 3, 4, 5, 6, 7, 8, 9, 10, 11, 12, 13, 14, 15, 16, 17, 18, 19, 20, 21, 22, 23, 24, 25, 26, 27, 28, 29]), (31, [0, 1, 2, 3, 4, 5, 6, 7, 8, 9, 10, 11, 12, 13, 14, 15, 16, 17, 18, 19, 20, 21, 22, 23, 24, 25, 26, 27, 28, 29, 30]), (32, [0, 1, 2, 3, 4, 5, 6, 7, 8, 9, 10, 11, 12, 13, 14, 15, 16, 17, 18, 19, 20, 21, 22, 23, 24, 25]), (33, [0, 1, 2, 3, 4, 5, 6, 7, 8, 9, 10, 11, 12, 13, 14, 15, 16, 17, 18, 19, 20, 21, 22, 23, 24, 25, 26, 27, 28, 29, 30, 31, 32]), (34, [0, 1, 2, 3, 4, 5, 6, 7, 8, 9, 10, 11, 12, 13, 14, 15, 16, 17, 18, 19, 20, 21, 22, 23, 24, 25, 26, 27, 28, 29, 30, 31, 32, 33]), (35, [0, 1, 2, 3, 4, 5, 6, 7, 8, 9, 10, 11, 12, 13, 14, 15, 16, 17, 18, 19, 20, 21, 22, 23, 24, 25, 26, 27, 28, 29, 30, 31, 32, 33, 34]), (36, [0, 1, 2, 3, 4, 5, 6, 7, 8, 9, 10, 11, 12, 13, 14, 15, 16, 17, 18, 19, 20, 21, 22, 23, 24, 25, 26, 27, 28, 29, 30, 31, 32, 33, 34, 35])]
def tbDocS116_21 : List (Nat × List Nat) := [(0, []), (1, []), (2, [1]), (3, []), (4, [1, 2, 3]), (5, [1, 2, 3, 4]), (6, [0, 1, 2, 3, 4, 5]), (7, [0, 1, 2, 3, 4, 5, 6])]
attribute [local irreducible] WL AC WD WE MStep OkOp

def badK (k : Int) (a : Ar) : Bool := a.rc && (decide (0 < a.dom.length) || decide (k ≤ a.sort))
theorem any_bad (k : Int) (d : Bool) (l : List Ar) : l.any (sortBad k d) = (l.any (badK k) || (d && l.any (·.rc))) := by
  induction l with
  | nil => simp
  | cons a l ih =>
    simp only [List.any_cons, ih, sortBad, badK]
    cases a.rc <;> cases d <;> simp [Bool.or_assoc]
    all_goals (cases decide (0 < a.dom.length) <;> simp)
theorem all_not_anyS {α : Type} (p : α → Bool) (l : List α) : l.all p = !(l.any fun k => !p k) := by
  induction l with
  | nil => rfl
  | cons a l ih => simp only [List.all_cons, List.any_cons, ih, Bool.not_or, Bool.not_not]
theorem shape_sort_no {b : Bl} {k : Nat} {s : Sr} (hs : b.sorts[k]? = some s) (h : sortB b k s = false) : shapeB b = false := by
  cases hq : shapeB b with
  | false => rfl
  | true =>
    simp only [shapeB, Bool.and_eq_true] at hq
    have := sortsB_iff.1 hq.2.2.2.1 k s hs
    rw [Nat.zero_add, h] at this; cases this
theorem shape_con_no {b : Bl} {c : Cn} (hs : c ∈ b.cons) (h : conB b c = false) : shapeB b = false := by
  cases hq : shapeB b with
  | false => rfl
  | true =>
    simp only [shapeB, Bool.and_eq_true] at hq
    have := List.all_eq_true.1 hq.2.2.2.2 c hs
    rw [h] at this; cases this

set_option maxRecDepth 4000 in
set_option maxHeartbeats 8000000 in
theorem rshape_spec (b : Bl) (hb : b.size ≤ 1048576) : FC Tryz.prog 116 [aB b] (.bool (shapeB b)) := by
  have hsl := len_le_sizesS b.sorts
  have hcl := len_le_sizesC b.cons
  have hb' := hb
  unfold Bl.size at hb'
  have hsh : shapeB b = (inR (b.sorts.length : Nat) 1 4 && (decide (b.cons.length ≤ 8) && (inR b.elim 0 6 && (sortsB b 0 b.sorts && b.cons.all (conB b))))) := rfl
  have i1 := in7_spec ((rsS b.sorts).length : Nat) 1 4
  rw [rsS_length] at i1
  rw [← rsS_length b.sorts] at i1
  refine FC_intro hty Tryz.func116 rfl rfl rfl fun w0 => ?_
  repeat' (first | refine WL_callB rfl (in7_spec _ _ _) rfl (fun _ => ?_) (fun _ => ?_) | refine WL_p hty rfl rfl ?_ | refine WL_nil ?_ | refine AC_seq ?_ | refine AC_region ?_ | refine AC_block ?_ | refine AC_skip ?_ | refine AC_condT rfl ?_ | refine AC_condF rfl ?_ | refine AC_exit ?_ | refine AC_ret ?_ | refine WL_ung rfl rfl ?_ | refine WL_offT rfl rfl rfl ?_ | refine WL_offF rfl rfl rfl ?_ | refine WL_offU rfl rfl rfl ?_ | refine WL_m rfl (m_idxN hty rfl rfl rfl (by assumption) rfl) ?_ | refine ends_bool rfl ?_ | refine WL_cmp rfl rfl rfl rfl (fun _ => ?_) (fun _ => ?_) | refine AC_cond rfl (fun _ => ?_) (fun _ => ?_))
  · rename_i q1 q2
    rw [rsC_length] at q2
    rw [hsh, show decide (b.cons.length ≤ 8) = false from decide_eq_false (by omega)]; simp
  · rename_i q1 q2 q3
    refine AC_for b.sorts.length (fun j => ∀ (i : Nat) (s : Sr), i < j → b.sorts[i]? = some s → sortB b i s = true) (fun j => ⟨envOf [(1, .ptr 1 0), (3, .int .i64 (j : Nat))],
      bkOf [(1, .box [.lst 6 (rsS b.sorts) false, .lst 6 (rsC b.cons) false, .int .i64 b.elim])]⟩) (less_sub ⟨⟨_, rfl, .inl ⟨.refl _, rfl⟩⟩, ⟨_, rfl, .inl ⟨.refl _, rfl⟩⟩, trivial⟩ ⟨⟨⟨_, rfl, .refl _⟩, rfl⟩, trivial⟩) (fun i s hi => absurd hi (Nat.not_lt_zero _)) ?_
    intro j hj hI
    repeat' (first | refine WL_p hty rfl rfl ?_ | refine WL_nil ?_ | refine AC_seq ?_ | refine AC_region ?_ | refine AC_block ?_ | refine AC_skip ?_ | refine AC_condT rfl ?_ | refine AC_condF rfl ?_ | refine AC_exit ?_ | refine AC_ret ?_ | refine WL_ung rfl rfl ?_ | refine WL_offT rfl rfl rfl ?_ | refine WL_offF rfl rfl rfl ?_ | refine WL_offU rfl rfl rfl ?_ | refine WL_m rfl (m_idxN hty rfl rfl rfl (by assumption) rfl) ?_ | refine ends_bool rfl ?_)
    refine WL_cmp rfl rfl rfl rfl (fun hc => ?_) (fun hc => ?_)
    · have hlt : j < b.sorts.length := by rw [rsS_length] at hc; omega
      obtain ⟨s, hs, hsm⟩ := get_of_lt hlt
      have rs := rsS_get hs
      have hss := size_le_sizesS hsm
      unfold Sr.size at hss
      have hil := len_le_sizesA s.idx
      have hop := open_spec s.decT ((rsA s.idx).length : Nat) (by omega)
      have hbad : sortB b j s = false → shapeB b = false := shape_sort_no hs
      have hse : sortB b j s = ((decide (s.idx.length ≤ 12) && argSeq b 0 s.idx) && (inR s.level 0 6 && (maybeB s.dec s.decT s.idx.length && !(s.idx.any (sortBad j s.dec))))) := rfl
      repeat' (first | refine WL_callB rfl (in7_spec _ _ _) rfl (fun _ => ?_) (fun _ => ?_) | refine WL_p hty rfl rfl ?_ | refine WL_nil ?_ | refine AC_seq ?_ | refine AC_region ?_ | refine AC_block ?_ | refine AC_skip ?_ | refine AC_condT rfl ?_ | refine AC_condF rfl ?_ | refine AC_exit ?_ | refine AC_ret ?_ | refine WL_ung rfl rfl ?_ | refine WL_offT rfl rfl rfl ?_ | refine WL_offF rfl rfl rfl ?_ | refine WL_offU rfl rfl rfl ?_ | refine WL_m rfl (m_idxN hty rfl rfl rfl (by assumption) rfl) ?_ | refine ends_bool rfl ?_ | refine WL_cmp rfl rfl rfl rfl (fun _ => ?_) (fun _ => ?_) | refine AC_cond rfl (fun _ => ?_) (fun _ => ?_))
      · rename_i p1
        have p1 : ((rsA s.idx).length : Int) > 12 := p1
        rw [rsA_length] at p1
        exact (hbad (by rw [hse, show decide (s.idx.length ≤ 12) = false from decide_eq_false (by omega)]; rfl)).symm
      · rename_i p1 p2
        have p1 : ¬ ((rsA s.idx).length : Int) > 12 := p1
        rw [rsA_length] at p1
        rw [show decide (s.idx.length ≤ 12) = true from decide_eq_true (by omega), p2, Bool.true_and, Bool.true_and] at hse
        refine AC_for s.idx.length (fun i => argSeq b 0 (s.idx.take i) = true ∧ (s.idx.take i).any (badK j) = false) (fun i => ⟨envOf [(1, .ptr 1 0), (3, .int .i64 (j : Nat)), (4, .ptr 4 0), (5, .bool ((s.idx.take i).any (·.rc))), (6, .int .i64 (i : Nat))],
          bkOf [(1, .box [.lst 6 (rsS b.sorts) false, .lst 6 (rsC b.cons) false, .int .i64 b.elim]), (4, .box (cS s))]⟩) (less_sub ⟨⟨_, rfl, .inl ⟨.refl _, rfl⟩⟩, ⟨_, rfl, .inl ⟨.refl _, rfl⟩⟩, ⟨_, rfl, .inl ⟨.refl _, rfl⟩⟩, ⟨_, rfl, .inl ⟨.refl _, rfl⟩⟩, ⟨_, rfl, .inl ⟨.refl _, rfl⟩⟩, trivial⟩ ⟨⟨⟨_, rfl, .refl _⟩, rfl⟩, ⟨⟨_, rfl, .refl _⟩, rfl⟩, trivial⟩) ⟨rfl, rfl⟩ ?_
        intro i hi hK
        repeat' (first | refine WL_p hty rfl rfl ?_ | refine WL_nil ?_ | refine AC_seq ?_ | refine AC_region ?_ | refine AC_block ?_ | refine AC_skip ?_ | refine AC_condT rfl ?_ | refine AC_condF rfl ?_ | refine AC_exit ?_ | refine AC_ret ?_ | refine WL_ung rfl rfl ?_ | refine WL_offT rfl rfl rfl ?_ | refine WL_offF rfl rfl rfl ?_ | refine WL_offU rfl rfl rfl ?_ | refine WL_m rfl (m_idxN hty rfl rfl rfl (by assumption) rfl) ?_ | refine ends_bool rfl ?_)
        refine WL_cmp rfl rfl rfl rfl (fun hd => ?_) (fun hd => ?_)
        · have hlt2 : i < s.idx.length := by rw [rsA_length] at hd; omega
          obtain ⟨a, ha, ham⟩ := get_of_lt hlt2
          have ra := rsA_get ha
          have has := size_le_sizesA ham
          have hfa := arg_spec b a (i : Nat) hb (by omega) (by omega) (by omega)
          have hts : (s.idx.take (i + 1)).any (·.rc) = ((s.idx.take i).any (·.rc) || a.rc) := any_take_succ ha
          have htb : (s.idx.take (i + 1)).any (badK j) = ((s.idx.take i).any (badK j) || badK j a) := any_take_succ ha
          have htq : argSeq b 0 (s.idx.take (i + 1)) = (argSeq b 0 (s.idx.take i) && argB b a (0 + (i : Nat))) := argSeq_take_succ ha 0
          rw [Int.zero_add] at htq
          rw [htq, htb, hts, hK.1, hK.2]
          have hbA : argB b a (i : Nat) = false → shapeB b = false := fun q => hbad (by rw [hse, argSeq_split ha, Int.zero_add, q]; simp)
          have hbB : badK j a = true → shapeB b = false := fun q => hbad (by rw [hse, any_bad, any_of_get ha q]; simp)
          have hbe : badK j a = (a.rc && (decide (0 < a.dom.length) || decide ((j : Int) ≤ a.sort))) := rfl
          generalize (s.idx.take i).any (·.rc) = rr
          obtain ⟨rc, tt, dd, so, ix⟩ := a
          have hfin : (AV.int .i64 (IntKind.i64.wrap ((i : Nat) + 1))) = .int .i64 ((i + 1 : Nat) : Int) := congrArg (AV.int .i64) ((wrap_ok (by omega) (by omega)).trans (by omega))
          cases rc
          all_goals
            repeat' (first | refine AC_drawnE (id := 13) tbDocS116_13 rfl (by kernel_rfl) ?_ | refine WE_callB rfl hfa rfl (fun _ => ?_) (fun _ => ?_) | refine WE_cons (.inl ⟨rfl, stepE_ok hty rfl rfl⟩) ?_ | refine WE_cons (.inl ⟨rfl, m_idxN hty rfl rfl rfl (by assumption) rfl⟩) ?_ | refine WE_ung rfl rfl ?_ | refine WE_offT rfl rfl rfl ?_ | refine WE_offF rfl rfl rfl ?_ | refine WE_offU rfl rfl rfl ?_ | refine WE_nil ⟨by kernel_rfl, ?_⟩ | refine WL_p hty rfl rfl ?_ | refine WL_nil ?_ | refine AC_seq ?_ | refine AC_region ?_ | refine AC_block ?_ | refine AC_skip ?_ | refine AC_condT rfl ?_ | refine AC_condF rfl ?_ | refine AC_exit ?_ | refine AC_ret ?_ | refine WL_ung rfl rfl ?_ | refine WL_offT rfl rfl rfl ?_ | refine WL_offF rfl rfl rfl ?_ | refine WL_offU rfl rfl rfl ?_ | refine WL_m rfl (m_idxN hty rfl rfl rfl (by assumption) rfl) ?_ | refine ends_bool rfl ?_ | refine WL_cmp rfl rfl rfl rfl (fun _ => ?_) (fun _ => ?_) | refine AC_cond rfl (fun _ => ?_) (fun _ => ?_) | refine WE_cmp rfl rfl rfl rfl (fun _ => ?_) (fun _ => ?_))
          all_goals first
            | (refine (hbA ?_).symm; assumption)
            | (refine (hbB ?_).symm; rw [hbe]; simp only [rsT_length] at *; simp; omega)
            | skip
          all_goals
            cases rr
            all_goals
              repeat' (first | refine WL_p hty rfl rfl ?_ | refine WL_nil ?_ | refine AC_seq ?_ | refine AC_region ?_ | refine AC_block ?_ | refine AC_skip ?_ | refine AC_condT rfl ?_ | refine AC_condF rfl ?_ | refine AC_exit ?_ | refine AC_ret ?_ | refine WL_ung rfl rfl ?_ | refine WL_offT rfl rfl rfl ?_ | refine WL_offF rfl rfl rfl ?_ | refine WL_offU rfl rfl rfl ?_ | refine WL_m rfl (m_idxN hty rfl rfl rfl (by assumption) rfl) ?_ | refine ends_bool rfl ?_ | refine WL_cmp rfl rfl rfl rfl (fun _ => ?_) (fun _ => ?_) | refine AC_cond rfl (fun _ => ?_) (fun _ => ?_))
              refine ⟨hlt2, ⟨?_, ?_⟩, (less_sub ⟨⟨_, rfl, .inl ⟨.refl _, rfl⟩⟩, ⟨_, rfl, .inl ⟨.refl _, rfl⟩⟩, ⟨_, rfl, .inl ⟨.refl _, rfl⟩⟩, ⟨_, rfl, .inl ⟨.refl _, rfl⟩⟩, ⟨_, rfl, see_eq ?_ rfl⟩, trivial⟩ ⟨⟨⟨_, rfl, .refl _⟩, rfl⟩, ⟨⟨_, rfl, .refl _⟩, rfl⟩, trivial⟩)⟩
              · simp [*]
              · rw [hbe]; simp only [rsT_length] at *
                first
                  | rfl
                  | (rw [show decide (0 < dd.length) = false from decide_eq_false (by omega), show decide ((j : Int) ≤ so) = false from decide_eq_false (by omega)]; rfl)
              · exact hfin
        · have hd : ¬ (i : Int) < ((rsA s.idx).length : Int) := hd
          obtain rfl : i = s.idx.length := by rw [rsA_length] at hd; omega
          rw [List.take_length] at hK ⊢
          rw [any_bad, hK.1, hK.2, Bool.true_and, Bool.false_or] at hse
          have hnext : sortB b j s = true → ∀ (i : Nat) (s : Sr), i < j + 1 → b.sorts[i]? = some s → sortB b i s = true := fun hp i u hi hu => by
            rcases Nat.lt_or_ge i j with q | q
            · exact hI i u q hu
            · obtain rfl : i = j := by omega
              rw [hs] at hu
              obtain rfl := Option.some.inj hu
              exact hp
          generalize s.idx.any (·.rc) = rr at hse ⊢
          obtain ⟨sx, sl, sd, st⟩ := s
          have hfin : (AV.int .i64 (IntKind.i64.wrap ((j : Nat) + 1))) = .int .i64 ((j + 1 : Nat) : Int) := congrArg (AV.int .i64) ((wrap_ok (by omega) (by omega)).trans (by omega))
          rw [rsA_length] at hop
          rw [← rsA_length sx] at hop
          cases sd <;> cases rr
          all_goals
            repeat' (first | refine WL_callB rfl (rnone_spec _) rfl (fun _ => ?_) (fun _ => ?_) | refine WL_callB rfl hop rfl (fun _ => ?_) (fun _ => ?_) | refine WL_p hty rfl rfl ?_ | refine WL_nil ?_ | refine AC_seq ?_ | refine AC_region ?_ | refine AC_block ?_ | refine AC_skip ?_ | refine AC_condT rfl ?_ | refine AC_condF rfl ?_ | refine AC_exit ?_ | refine AC_ret ?_ | refine WL_ung rfl rfl ?_ | refine WL_offT rfl rfl rfl ?_ | refine WL_offF rfl rfl rfl ?_ | refine WL_offU rfl rfl rfl ?_ | refine WL_m rfl (m_idxN hty rfl rfl rfl (by assumption) rfl) ?_ | refine ends_bool rfl ?_ | refine WL_cmp rfl rfl rfl rfl (fun _ => ?_) (fun _ => ?_) | refine AC_cond rfl (fun _ => ?_) (fun _ => ?_))
          all_goals first
            | (refine (hbad ?_).symm
               rw [hse]
               simp only [maybeB, rsA_length] at *
               simp [*]
               done)
            | (refine ⟨hlt, hnext ?_, (less_sub ⟨⟨_, rfl, .inl ⟨.refl _, rfl⟩⟩, ⟨_, rfl, see_eq ?_ rfl⟩, trivial⟩ ⟨⟨⟨_, rfl, .refl _⟩, rfl⟩, trivial⟩)⟩
               · rw [hse]
                 simp only [maybeB, rsA_length] at *
                 simp [*]
               · exact hfin)
      · rename_i p1 p2
        exact (hbad (by rw [hse, p2]; simp)).symm
    · obtain rfl : j = b.sorts.length := by rw [rsS_length] at hc; omega
      have hss : sortsB b 0 b.sorts = true := sortsB_iff.2 fun i s hs => by rw [Nat.zero_add]; exact hI i s (List.getElem?_eq_some_iff.1 hs).1 hs
      have q2' : b.cons.length ≤ 8 := by
        have : ¬ ((rsC b.cons).length : Int) > 8 := q2
        rw [rsC_length] at this; omega
      have q1' : inR (b.sorts.length : Nat) 1 4 = true := by
        have : inR ((rsS b.sorts).length : Nat) 1 4 = true := q1
        rwa [rsS_length] at this
      rw [q1', decide_eq_true q2', show inR b.elim 0 6 = true from q3, hss] at hsh
      simp only [Bool.true_and] at hsh
      rw [hsh, all_not_anyS]
      repeat' (first | refine WL_p hty rfl rfl ?_ | refine WL_nil ?_ | refine AC_seq ?_ | refine AC_region ?_ | refine AC_block ?_ | refine AC_skip ?_ | refine AC_condT rfl ?_ | refine AC_condF rfl ?_ | refine AC_exit ?_ | refine AC_ret ?_ | refine WL_ung rfl rfl ?_ | refine WL_offT rfl rfl rfl ?_ | refine WL_offF rfl rfl rfl ?_ | refine WL_offU rfl rfl rfl ?_ | refine WL_m rfl (m_idxN hty rfl rfl rfl (by assumption) rfl) ?_ | refine ends_bool rfl ?_ | refine WL_cmp rfl rfl rfl rfl (fun _ => ?_) (fun _ => ?_) | refine AC_cond rfl (fun _ => ?_) (fun _ => ?_))
      refine AC_for b.cons.length (fun j => (b.cons.take j).any (fun c => !conB b c) = false) (fun j => ⟨envOf [(1, .ptr 1 0), (7, .int .i64 (j : Nat))],
        bkOf [(1, .box [.lst 6 (rsS b.sorts) false, .lst 6 (rsC b.cons) false, .int .i64 b.elim])]⟩) (less_sub ⟨⟨_, rfl, .inl ⟨.refl _, rfl⟩⟩, ⟨_, rfl, .inl ⟨.refl _, rfl⟩⟩, trivial⟩ ⟨⟨⟨_, rfl, .refl _⟩, rfl⟩, trivial⟩) rfl ?_
      intro j hj hI2
      repeat' (first | refine WL_p hty rfl rfl ?_ | refine WL_nil ?_ | refine AC_seq ?_ | refine AC_region ?_ | refine AC_block ?_ | refine AC_skip ?_ | refine AC_condT rfl ?_ | refine AC_condF rfl ?_ | refine AC_exit ?_ | refine AC_ret ?_ | refine WL_ung rfl rfl ?_ | refine WL_offT rfl rfl rfl ?_ | refine WL_offF rfl rfl rfl ?_ | refine WL_offU rfl rfl rfl ?_ | refine WL_m rfl (m_idxN hty rfl rfl rfl (by assumption) rfl) ?_ | refine ends_bool rfl ?_)
      refine WL_cmp rfl rfl rfl rfl (fun hc => ?_) (fun hc => ?_)
      · have hlt : j < b.cons.length := by rw [rsC_length] at hc; omega
        obtain ⟨c, hcc, hcm⟩ := get_of_lt hlt
        have rc := rsC_get hcc
        have hcs := size_le_sizesC hcm
        have hcs2 := con_spec b c hb (by omega)
        have hat := any_take_succ (p := fun c => !conB b c) hcc
        repeat' (first | refine WL_callB rfl hcs2 rfl (fun _ => ?_) (fun _ => ?_) | refine AC_drawnE (id := 21) tbDocS116_21 rfl (by kernel_rfl) ?_ | refine WE_callB rfl hcs2 rfl (fun _ => ?_) (fun _ => ?_) | refine WE_cons (.inl ⟨rfl, stepE_ok hty rfl rfl⟩) ?_ | refine WE_cons (.inl ⟨rfl, m_idxN hty rfl rfl rfl (by assumption) rfl⟩) ?_ | refine WE_ung rfl rfl ?_ | refine WE_offT rfl rfl rfl ?_ | refine WE_offF rfl rfl rfl ?_ | refine WE_offU rfl rfl rfl ?_ | refine WE_nil ⟨by kernel_rfl, ?_⟩ | refine WL_p hty rfl rfl ?_ | refine WL_nil ?_ | refine AC_seq ?_ | refine AC_region ?_ | refine AC_block ?_ | refine AC_skip ?_ | refine AC_condT rfl ?_ | refine AC_condF rfl ?_ | refine AC_exit ?_ | refine AC_ret ?_ | refine WL_ung rfl rfl ?_ | refine WL_offT rfl rfl rfl ?_ | refine WL_offF rfl rfl rfl ?_ | refine WL_offU rfl rfl rfl ?_ | refine WL_m rfl (m_idxN hty rfl rfl rfl (by assumption) rfl) ?_ | refine ends_bool rfl ?_ | refine WL_cmp rfl rfl rfl rfl (fun _ => ?_) (fun _ => ?_) | refine AC_cond rfl (fun _ => ?_) (fun _ => ?_) | refine WE_cmp rfl rfl rfl rfl (fun _ => ?_) (fun _ => ?_))
        all_goals rename_i q
        · refine ⟨hlt, by rw [hat, hI2, q]; rfl, (less_sub ⟨⟨_, rfl, .inl ⟨.refl _, rfl⟩⟩, ⟨_, rfl, see_eq ?_ rfl⟩, trivial⟩ ⟨⟨⟨_, rfl, .refl _⟩, rfl⟩, trivial⟩)⟩
          exact congrArg (AV.int .i64) ((wrap_ok (by omega) (by omega)).trans (by omega))
        · rw [any_of_get (p := fun c => !conB b c) hcc (by simp [q])]; rfl
      · obtain rfl : j = b.cons.length := by rw [rsC_length] at hc; omega
        rw [List.take_length] at hI2
        rw [hI2]
        repeat' (first | refine WL_p hty rfl rfl ?_ | refine WL_nil ?_ | refine AC_seq ?_ | refine AC_region ?_ | refine AC_block ?_ | refine AC_skip ?_ | refine AC_condT rfl ?_ | refine AC_condF rfl ?_ | refine AC_exit ?_ | refine AC_ret ?_ | refine WL_ung rfl rfl ?_ | refine WL_offT rfl rfl rfl ?_ | refine WL_offF rfl rfl rfl ?_ | refine WL_offU rfl rfl rfl ?_ | refine WL_m rfl (m_idxN hty rfl rfl rfl (by assumption) rfl) ?_ | refine ends_bool rfl ?_ | refine WL_cmp rfl rfl rfl rfl (fun _ => ?_) (fun _ => ?_) | refine AC_cond rfl (fun _ => ?_) (fun _ => ?_))
        rfl
  · rename_i q1 q2 q3
    rw [hsh, show inR b.elim 0 6 = false from q3]; simp
  · rename_i q1
    have q1' : inR (b.sorts.length : Nat) 1 4 = false := by
      have : inR ((rsS b.sorts).length : Nat) 1 4 = false := q1
      rwa [rsS_length] at this
    rw [hsh, q1']; rfl

end Go.Proofs.YtlonpgdnmngnmaaGreat

/-
  Arguments, constructors, blocks are compared, field by field.
-/
namespace Go.Proofs.YtlonpgdnmngnmaaGreat
set_option linter.unusedSimpArgs false
set_option linter.unusedVariables false
open Go.Aw Go.RowKit
def tbKeepB76_6 : List (Nat × List Nat) := [(0, []), (1, []), (2, [0, 1]), (3, [0, 1, 2]), (4, []), (5, []), (6, [4, 5]), (7, [4, 5, 6]), (8, [0, 1, 2, 3, 4, 5, 6, 7]), (9, [0, 1, 2, 3, 4, 5, 6, 7, 8])]
def tbKeepB41_6 : List (Nat × List Nat) := [(0, []), (1, [0]), (2, []), (3, [0, 1, 2]), (4, [0, 1, 2, 3]), (5, []), (6, [5]), (7, []), (8, [5, 6, 7]), (9, [5, 6, 7, 8]), (10, []), (11, []), (12, [0, 1, 2, 3, 4, 10, 11]), (13, [0, 1, 2, 3, 4, 5, 6, 7, 8, 9, 10, 11, 12])]
def tbKeepB41_12 : List (Nat × List Nat) := [(0, []), (1, [0]), (2, []), (3, [0, 1, 2]), (4, [0, 1, 2, 3]), (5, []), (6, [5]), (7, []), (8, [5, 6, 7]), (9, [5, 6, 7, 8]), (10, [0, 1, 2, 3, 4, 5, 6, 7, 8, 9]), (11, [0, 1, 2, 3, 4, 5, 6, 7, 8, 9, 10])]
attribute [local irreducible] WL AC WD WE MStep OkOp

theorem hboolK : isBoolT Tryz.prog 4 = true := by kernel_rfl
attribute [local irreducible] isBoolT

theorem kterms_spec' (la lb : List Tm) (h : sizes la ≤ 1048576) : FC Tryz.prog 38 [sT la, sT lb] (.bool (decide (la = lb))) := kterms_spec 1048576 (by omega) la lb h

theorem karg_spec (a b : Ar) (ha : a.size ≤ 1048576) : FC Tryz.prog 123 [aA a, aA b] (.bool (decide (a = b))) := by
  unfold Ar.size at ha
  refine FC_intro hty Tryz.func123 rfl rfl rfl fun w0 => ?_
  repeat' (first | refine WL_callB rfl (kterms_spec' _ _ (by omega)) rfl (fun _ => ?_) (fun _ => ?_) | refine WL_callB rfl (kterm_spec _ _ (by omega)) rfl (fun _ => ?_) (fun _ => ?_) | refine WL_eqB hty hboolK rfl rfl rfl (fun _ => ?_) (fun _ => ?_) | refine WL_p hty rfl rfl ?_ | refine WL_nil ?_ | refine AC_seq ?_ | refine AC_region ?_ | refine AC_skip ?_ | refine AC_ret ?_ | refine WL_ung rfl rfl ?_ | refine WL_offT rfl rfl rfl ?_ | refine WL_offF rfl rfl rfl ?_ | refine WL_offU rfl rfl rfl ?_ | refine ends_bool rfl ?_ | refine WL_cmp rfl rfl rfl rfl (fun _ => ?_) (fun _ => ?_))
  all_goals (cases a; cases b; simp_all)

theorem kargs_spec (la lb : List Ar) (ha : sizesA la ≤ 1048576) : FC Tryz.prog 76 [sA la, sA lb] (.bool (decide (la = lb))) := by
  have hla := len_le_sizesA la
  refine FC_intro hty Tryz.func76 rfl rfl rfl fun w0 => ?_
  repeat' (first | refine WL_p hty rfl rfl ?_ | refine WL_nil ?_ | refine AC_seq ?_ | refine AC_region ?_ | refine AC_block ?_ | refine AC_skip ?_ | refine AC_condT rfl ?_ | refine AC_condF rfl ?_ | refine AC_exit ?_ | refine AC_ret ?_ | refine ends_bool rfl ?_ | refine WL_cmp rfl rfl rfl rfl (fun _ => ?_) (fun _ => ?_) | refine AC_cond rfl (fun _ => ?_) (fun _ => ?_))
  · rename_i h
    exact (decide_eq_false fun q => h (by rw [q])).symm
  rename_i h
  rw [rsA_length, rsA_length] at h
  have h : la.length = lb.length := by omega
  refine AC_for la.length (fun j => la.take j = lb.take j) (fun j => ⟨envOf [(0, sA la), (1, sA lb), (5, .int .i64 (j : Nat))], bkOf []⟩)
    (less_sub ⟨⟨_, rfl, .inl ⟨.refl _, rfl⟩⟩, ⟨_, rfl, .inl ⟨.refl _, rfl⟩⟩, ⟨_, rfl, .inl ⟨.refl _, rfl⟩⟩, trivial⟩ trivial) rfl ?_
  intro j hj hI
  repeat' (first | refine WL_p hty rfl rfl ?_ | refine WL_nil ?_ | refine AC_seq ?_ | refine AC_region ?_ | refine AC_block ?_ | refine AC_skip ?_ | refine AC_condT rfl ?_ | refine AC_condF rfl ?_ | refine AC_exit ?_ | refine AC_ret ?_ | refine ends_bool rfl ?_ | refine WL_cmp rfl rfl rfl rfl (fun _ => ?_) (fun _ => ?_) | refine AC_cond rfl (fun _ => ?_) (fun _ => ?_))
  · rename_i hc
    rw [rsA_length] at hc
    have hlt : j < la.length := by omega
    obtain ⟨a, ha, hma⟩ := get_of_lt hlt
    obtain ⟨b, hb, _⟩ := get_of_lt (h ▸ hlt)
    have := size_le_sizesA hma
    have ra := rsA_get ha
    have rb := rsA_get hb
    refine AC_drawnE (id := 6) tbKeepB76_6 rfl (by kernel_rfl) ?_
    repeat' (first | refine WE_cons (.inl ⟨rfl, m_call 0 rfl (karg_spec _ _ (by omega)) rfl rfl rfl⟩) ?_ | refine WE_cons (.inl ⟨rfl, stepE_ok hty rfl rfl⟩) ?_ | refine WE_cons (.inl ⟨rfl, m_idxN hty rfl rfl rfl (by assumption) rfl⟩) ?_ | refine WE_nil ⟨by kernel_rfl, ?_⟩ | refine WL_p hty rfl rfl ?_ | refine WL_nil ?_ | refine AC_seq ?_ | refine AC_region ?_ | refine AC_block ?_ | refine AC_skip ?_ | refine AC_condT rfl ?_ | refine AC_condF rfl ?_ | refine AC_exit ?_ | refine AC_ret ?_ | refine ends_bool rfl ?_ | refine WL_cmp rfl rfl rfl rfl (fun _ => ?_) (fun _ => ?_) | refine AC_cond rfl (fun _ => ?_) (fun _ => ?_))
    · rename_i hab
      have hab : a ≠ b := by simpa using hab
      refine (decide_eq_false fun q => hab ?_).symm
      rw [q, hb] at ha
      exact (Option.some.inj ha).symm
    · rename_i hab
      have hab : a = b := by simpa using hab
      refine ⟨hlt, ?_, (less_sub ⟨⟨_, rfl, .inl ⟨.refl _, rfl⟩⟩, ⟨_, rfl, .inl ⟨.refl _, rfl⟩⟩, ⟨_, rfl, see_eq ?_ rfl⟩, trivial⟩ trivial)⟩
      · rw [List.take_add_one, List.take_add_one, hI, ha, hb, hab]
      · exact congrArg (AV.int .i64) ((wrap_ok (by omega) (by omega)).trans (by omega))
  · rename_i hc
    rw [rsA_length] at hc
    obtain rfl : j = la.length := by omega
    refine (decide_eq_true ?_).symm
    rw [List.take_length, h, List.take_length] at hI
    exact hI

theorem kcon_spec (a b : Cn) (ha : a.size ≤ 1048576) : FC Tryz.prog 77 [aC a, aC b] (.bool (decide (a = b))) := by
  unfold Cn.size at ha
  refine FC_intro hty Tryz.func77 rfl rfl rfl fun w0 => ?_
  repeat' (first | refine WL_callB rfl (kterms_spec' _ _ (by omega)) rfl (fun _ => ?_) (fun _ => ?_) | refine WL_callB rfl (kterm_spec _ _ (by omega)) rfl (fun _ => ?_) (fun _ => ?_) | refine WL_callB rfl (kargs_spec _ _ (by omega)) rfl (fun _ => ?_) (fun _ => ?_) | refine WL_p hty rfl rfl ?_ | refine WL_nil ?_ | refine AC_seq ?_ | refine AC_region ?_ | refine AC_skip ?_ | refine AC_ret ?_ | refine WL_ung rfl rfl ?_ | refine WL_offT rfl rfl rfl ?_ | refine WL_offF rfl rfl rfl ?_ | refine WL_offU rfl rfl rfl ?_ | refine ends_bool rfl ?_ | refine WL_cmp rfl rfl rfl rfl (fun _ => ?_) (fun _ => ?_))
  all_goals (cases a; cases b; simp_all)

def zBl : Bl := ⟨[], [], 0⟩
theorem Sr.ext {a b : Sr} (h1 : a.idx = b.idx) (h2 : a.level = b.level) (h3 : a.dec = b.dec) (h4 : a.decT = b.decT) : a = b := by cases a; cases b; simp_all

set_option maxHeartbeats 4000000 in
theorem kblock_spec (a b : Bl) (ha : a.size ≤ 1048576) : FC Tryz.prog 41 [aB a, aB b] (.bool (decide (a = b))) := by
  have ha' := ha
  unfold Bl.size at ha
  have hsl := len_le_sizesS a.sorts
  have hcl := len_le_sizesC a.cons
  refine FC_intro hty Tryz.func41 rfl rfl rfl fun w0 => ?_
  repeat' (first | refine WL_p hty rfl rfl ?_ | refine WL_nil ?_ | refine AC_seq ?_ | refine AC_region ?_ | refine AC_block ?_ | refine AC_skip ?_ | refine AC_condT rfl ?_ | refine AC_condF rfl ?_ | refine AC_exit ?_ | refine AC_ret ?_ | refine WL_ung rfl rfl ?_ | refine WL_offT rfl rfl rfl ?_ | refine WL_offF rfl rfl rfl ?_ | refine WL_offU rfl rfl rfl ?_ | refine ends_bool rfl ?_ | refine WL_cmp rfl rfl rfl rfl (fun _ => ?_) (fun _ => ?_) | refine AC_cond rfl (fun _ => ?_) (fun _ => ?_))
  · rename_i h
    have h : ((rsS a.sorts).length : Int) ≠ ((rsS b.sorts).length : Int) := h
    exact (decide_eq_false fun q => h (by rw [q])).symm
  · rename_i h1 h
    have h : ((rsC a.cons).length : Int) ≠ ((rsC b.cons).length : Int) := h
    exact (decide_eq_false fun q => h (by rw [q])).symm
  · rename_i h1 h2 h
    have h : a.elim ≠ b.elim := h
    exact (decide_eq_false fun q => h (by rw [q])).symm
  rename_i h1 h2 h3
  have h1 : a.sorts.length = b.sorts.length := by
    have := Decidable.not_not.1 (show ¬ ((rsS a.sorts).length : Int) ≠ ((rsS b.sorts).length : Int) from h1)
    rw [rsS_length, rsS_length] at this; omega
  have h2 : a.cons.length = b.cons.length := by
    have := Decidable.not_not.1 (show ¬ ((rsC a.cons).length : Int) ≠ ((rsC b.cons).length : Int) from h2)
    rw [rsC_length, rsC_length] at this; omega
  have h3 : a.elim = b.elim := Decidable.not_not.1 h3
  refine AC_for a.sorts.length (fun j => a.sorts.take j = b.sorts.take j) (fun j => ⟨envOf [(2, .ptr 2 0), (3, .ptr 3 0), (5, .int .i64 (j : Nat))], bkOf [(2, .box (cB a)), (3, .box (cB b))]⟩) (less_sub ⟨⟨_, rfl, .inl ⟨.refl _, rfl⟩⟩, ⟨_, rfl, .inl ⟨.refl _, rfl⟩⟩, ⟨_, rfl, .inl ⟨.refl _, rfl⟩⟩, trivial⟩ ⟨⟨⟨_, rfl, .refl _⟩, rfl⟩, ⟨⟨_, rfl, .refl _⟩, rfl⟩, trivial⟩) rfl ?_
  intro j hj hI
  repeat' (first | refine WL_p hty rfl rfl ?_ | refine WL_nil ?_ | refine AC_seq ?_ | refine AC_region ?_ | refine AC_block ?_ | refine AC_skip ?_ | refine AC_condT rfl ?_ | refine AC_condF rfl ?_ | refine AC_exit ?_ | refine AC_ret ?_ | refine WL_ung rfl rfl ?_ | refine WL_offT rfl rfl rfl ?_ | refine WL_offF rfl rfl rfl ?_ | refine WL_offU rfl rfl rfl ?_ | refine ends_bool rfl ?_)
  refine WL_cmp rfl rfl rfl rfl (fun hc => ?_) (fun hc => ?_)
  · have hlt : j < a.sorts.length := by rw [rsS_length] at hc; omega
    obtain ⟨s, hs, hms⟩ := get_of_lt hlt
    obtain ⟨u, hu, _⟩ := get_of_lt (h1 ▸ hlt)
    have hss := size_le_sizesS hms
    unfold Sr.size at hss
    have rs := rsS_get hs
    have ru := rsS_get hu
    have k1 := kargs_spec s.idx u.idx (by omega)
    have k2 := kterm_spec s.decT u.decT (by omega)
    have hbad : s ≠ u → decide (a = b) = false := fun q => decide_eq_false fun e => q (by
      rw [e] at hs; rw [hs] at hu; exact Option.some.inj hu)
    have hgood : s = u → j < a.sorts.length ∧ a.sorts.take (j + 1) = b.sorts.take (j + 1) := fun he => ⟨hlt, by rw [List.take_add_one, List.take_add_one, hI, hs, hu, he]⟩
    have hfin : (AV.int .i64 (IntKind.i64.wrap ((j : Nat) + 1))) = .int .i64 ((j + 1 : Nat) : Int) := congrArg (AV.int .i64) ((wrap_ok (by omega) (by omega)).trans (by omega))
    obtain ⟨si, sl, sd, st⟩ := s
    obtain ⟨ui, ul, ud, ut⟩ := u
    simp only at k1 k2
    cases sd <;> cases ud
    all_goals
      repeat' (first | (refine AC_drawnE (id := 6) tbKeepB41_6 rfl (by kernel_rfl) ?_) | refine WL_callB rfl k1 rfl (fun _ => ?_) (fun _ => ?_) | refine WL_callB rfl k2 rfl (fun _ => ?_) (fun _ => ?_) | refine WL_m rfl (m_neB hboolK rfl rfl rfl) ?_ | refine WE_cons (.inl ⟨rfl, stepE_ok hty rfl rfl⟩) ?_ | refine WE_cons (.inl ⟨rfl, m_idxN hty rfl rfl rfl (by assumption) rfl⟩) ?_ | refine WE_nil ⟨by kernel_rfl, ?_⟩ | refine WL_p hty rfl rfl ?_ | refine WL_nil ?_ | refine AC_seq ?_ | refine AC_region ?_ | refine AC_block ?_ | refine AC_skip ?_ | refine AC_condT rfl ?_ | refine AC_condF rfl ?_ | refine AC_exit ?_ | refine AC_ret ?_ | refine WL_ung rfl rfl ?_ | refine WL_offT rfl rfl rfl ?_ | refine WL_offF rfl rfl rfl ?_ | refine WL_offU rfl rfl rfl ?_ | refine ends_bool rfl ?_ | refine WL_cmp rfl rfl rfl rfl (fun _ => ?_) (fun _ => ?_) | refine AC_cond rfl (fun _ => ?_) (fun _ => ?_))
      all_goals first
        | (refine (hbad fun e => ?_).symm
           have e1 : si = ui := congrArg Sr.idx e
           have e2 : sl = ul := congrArg Sr.level e
           have e4 : st = ut := congrArg Sr.decT e
           simp_all
           done)
        | (refine (hbad fun e => ?_).symm; exact Bool.noConfusion (congrArg Sr.dec e))
        | (refine ⟨hlt, (hgood ?_).2, (less_sub ⟨⟨_, rfl, .inl ⟨.refl _, rfl⟩⟩, ⟨_, rfl, .inl ⟨.refl _, rfl⟩⟩, ⟨_, rfl, see_eq ?_ rfl⟩, trivial⟩ ⟨⟨⟨_, rfl, .refl _⟩, rfl⟩, ⟨⟨_, rfl, .refl _⟩, rfl⟩, trivial⟩)⟩
           · exact Sr.ext (of_decide_eq_true (by assumption)) (Decidable.not_not.1 (by assumption)) rfl (of_decide_eq_true (by assumption))
           · exact hfin)
  · obtain rfl : j = a.sorts.length := by rw [rsS_length] at hc; omega
    have e1 : a.sorts = b.sorts := by rw [List.take_length, h1, List.take_length] at hI; exact hI
    repeat' (first | refine WL_p hty rfl rfl ?_ | refine WL_nil ?_ | refine AC_seq ?_ | refine AC_region ?_ | refine AC_block ?_ | refine AC_skip ?_ | refine AC_condT rfl ?_ | refine AC_condF rfl ?_ | refine AC_exit ?_ | refine AC_ret ?_ | refine WL_ung rfl rfl ?_ | refine WL_offT rfl rfl rfl ?_ | refine WL_offF rfl rfl rfl ?_ | refine WL_offU rfl rfl rfl ?_ | refine ends_bool rfl ?_ | refine WL_cmp rfl rfl rfl rfl (fun _ => ?_) (fun _ => ?_) | refine AC_cond rfl (fun _ => ?_) (fun _ => ?_))
    refine AC_for a.cons.length (fun j => a.cons.take j = b.cons.take j) (fun j => ⟨envOf [(2, .ptr 2 0), (3, .ptr 3 0), (8, .int .i64 (j : Nat))], bkOf [(2, .box (cB a)), (3, .box (cB b))]⟩) (less_sub ⟨⟨_, rfl, .inl ⟨.refl _, rfl⟩⟩, ⟨_, rfl, .inl ⟨.refl _, rfl⟩⟩, ⟨_, rfl, .inl ⟨.refl _, rfl⟩⟩, trivial⟩ ⟨⟨⟨_, rfl, .refl _⟩, rfl⟩, ⟨⟨_, rfl, .refl _⟩, rfl⟩, trivial⟩) rfl ?_
    intro j hj hI
    repeat' (first | refine WL_p hty rfl rfl ?_ | refine WL_nil ?_ | refine AC_seq ?_ | refine AC_region ?_ | refine AC_block ?_ | refine AC_skip ?_ | refine AC_condT rfl ?_ | refine AC_condF rfl ?_ | refine AC_exit ?_ | refine AC_ret ?_ | refine WL_ung rfl rfl ?_ | refine WL_offT rfl rfl rfl ?_ | refine WL_offF rfl rfl rfl ?_ | refine WL_offU rfl rfl rfl ?_ | refine ends_bool rfl ?_)
    refine WL_cmp rfl rfl rfl rfl (fun hc => ?_) (fun hc => ?_)
    · have hlt : j < a.cons.length := by rw [rsC_length] at hc; omega
      obtain ⟨s, hs, hms⟩ := get_of_lt hlt
      obtain ⟨u, hu, _⟩ := get_of_lt (h2 ▸ hlt)
      have hss := size_le_sizesC hms
      have rs := rsC_get hs
      have ru := rsC_get hu
      have k1 := kcon_spec s u (by omega)
      repeat' (first | (refine AC_drawnE (id := 12) tbKeepB41_12 rfl (by kernel_rfl) ?_) | refine WE_callB rfl k1 rfl (fun _ => ?_) (fun _ => ?_) | refine WE_cons (.inl ⟨rfl, stepE_ok hty rfl rfl⟩) ?_ | refine WE_cons (.inl ⟨rfl, m_idxN hty rfl rfl rfl (by assumption) rfl⟩) ?_ | refine WE_nil ⟨by kernel_rfl, ?_⟩ | refine WL_p hty rfl rfl ?_ | refine WL_nil ?_ | refine AC_seq ?_ | refine AC_region ?_ | refine AC_block ?_ | refine AC_skip ?_ | refine AC_condT rfl ?_ | refine AC_condF rfl ?_ | refine AC_exit ?_ | refine AC_ret ?_ | refine WL_ung rfl rfl ?_ | refine WL_offT rfl rfl rfl ?_ | refine WL_offF rfl rfl rfl ?_ | refine WL_offU rfl rfl rfl ?_ | refine ends_bool rfl ?_ | refine WL_cmp rfl rfl rfl rfl (fun _ => ?_) (fun _ => ?_) | refine AC_cond rfl (fun _ => ?_) (fun _ => ?_))
      all_goals rename_i q
      · refine ⟨hlt, ?_, (less_sub ⟨⟨_, rfl, .inl ⟨.refl _, rfl⟩⟩, ⟨_, rfl, .inl ⟨.refl _, rfl⟩⟩, ⟨_, rfl, see_eq ?_ rfl⟩, trivial⟩ ⟨⟨⟨_, rfl, .refl _⟩, rfl⟩, ⟨⟨_, rfl, .refl _⟩, rfl⟩, trivial⟩)⟩
        · rw [List.take_add_one, List.take_add_one, hI, hs, hu, of_decide_eq_true q]
        · exact congrArg (AV.int .i64) ((wrap_ok (by omega) (by omega)).trans (by omega))
      · refine (decide_eq_false fun e => of_decide_eq_false q ?_).symm
        rw [e] at hs; rw [hs] at hu; exact Option.some.inj hu
    · obtain rfl : j = a.cons.length := by rw [rsC_length] at hc; omega
      have e2 : a.cons = b.cons := by rw [List.take_length, h2, List.take_length] at hI; exact hI
      repeat' (first | refine WL_p hty rfl rfl ?_ | refine WL_nil ?_ | refine AC_seq ?_ | refine AC_region ?_ | refine AC_block ?_ | refine AC_skip ?_ | refine AC_condT rfl ?_ | refine AC_condF rfl ?_ | refine AC_exit ?_ | refine AC_ret ?_ | refine WL_ung rfl rfl ?_ | refine WL_offT rfl rfl rfl ?_ | refine WL_offF rfl rfl rfl ?_ | refine WL_offU rfl rfl rfl ?_ | refine ends_bool rfl ?_ | refine WL_cmp rfl rfl rfl rfl (fun _ => ?_) (fun _ => ?_) | refine AC_cond rfl (fun _ => ?_) (fun _ => ?_))
      refine (decide_eq_true ?_).symm
      cases a; cases b
      simp only at e1 e2 h3
      rw [e1, e2, h3]

end Go.Proofs.YtlonpgdnmngnmaaGreat
