/-
  The constants of a block: how many, which.; Which constant of a block a number is.; The program's word on a block's shape: terms, arguments.; The program's word on a block's shape: sorts, constructors, blocks.
-/
import Derived.Test.YtlonpgdnmngnmaaGreatGC
import Derived.Test.YtlonpgdnmngnmaaGreatGB
import Derived.Test.YtlonpgdnmngnmaaGreatGD

/-
  The constants of a block: how many, which.
-/
namespace Go.Proofs.YtlonpgdnmngnmaaGreat
set_option linter.unusedSimpArgs false
set_option linter.unusedVariables false
open Go.Aw Go.RowKit
def tbShapeN92_1 : List (Nat × List Nat) := [(0, []), (1, [0]), (2, [0, 1]), (3, [0, 1, 2]), (4, []), (5, []), (6, [5]), (7, [5, 6]), (8, [4, 5, 6, 7]), (9, [0, 1, 2, 3, 4, 5, 6, 7, 8]), (10, []), (11, [10]), (12, [10, 11]), (13, [0, 1, 2, 3, 4, 5, 6, 7, 8, 9, 10, 11, 12]), (14, [0, 1, 2, 3, 4, 5, 6, 7, 8, 9, 10, 11, 12, 13])]
def tbShapeN126_1 : List (Nat × List Nat) := [(0, []), (1, []), (2, [1]), (3, [1, 2]), (4, []), (5, []), (6, [5]), (7, [5, 6]), (8, [4, 5, 6, 7]), (9, [1, 2, 3, 4, 5, 6, 7, 8]), (10, []), (11, []), (12, [11]), (13, [11, 12]), (14, [0, 1, 2, 3, 4, 5, 6, 7, 8, 9, 10, 11, 12, 13]), (15, [0, 1, 2, 3, 4, 5, 6, 7, 8, 9, 10, 11, 12, 13, 14])]
def tbShapeN127_1 : List (Nat × List Nat) := [(0, []), (1, []), (2, [1]), (3, [1, 2]), (4, []), (5, []), (6, [5]), (7, [5, 6]), (8, [4, 5, 6, 7]), (9, [1, 2, 3, 4, 5, 6, 7, 8]), (10, []), (11, [10]), (12, [10, 11]), (13, [1, 2, 3, 4, 5, 6, 7, 8, 9, 10, 11, 12]), (14, []), (15, []), (16, [15]), (17, [15, 16]), (18, [0, 1, 2, 3, 4, 5, 6, 7, 8, 9, 10, 11, 12, 13, 14, 15, 16, 17]), (19, [0, 1, 2, 3, 4, 5, 6, 7, 8, 9, 10, 11, 12, 13, 14, 15, 16, 17, 18])]
def tbShapeN125_3 : List (Nat × List Nat) := [(0, []), (1, []), (2, [1]), (3, [1, 2]), (4, []), (5, []), (6, [4, 5]), (7, []), (8, [7]), (9, [7, 8]), (10, [0, 1, 2, 3, 4, 5, 6, 7, 8, 9]), (11, [0, 1, 2, 3, 4, 5, 6, 7, 8, 9, 10])]
attribute [local irreducible] WL AC WD WE MStep OkOp

/-- How many of the first sorts have decoders. -/
def decsN (l : List Sr) : Nat := l.countP (·.dec)
def countN (b : Bl) : Nat := 2 * b.sorts.length + decsN b.sorts + b.cons.length
def placeI (base ahead k many : Int) : Int := if base < 0 then -1 else if 65535 < base then -1 else if k < 0 then -1 else if many ≤ k then -1 else base + ahead + k
def formerI (b : Bl) (base k : Int) : Int := placeI base 0 k b.sorts.length
def decoderI (b : Bl) (base k : Int) : Int := if k < 0 then -1 else if (b.sorts.length : Int) ≤ k then -1 else if decS b k = true then placeI base b.sorts.length (decsN (b.sorts.take k.toNat)) b.sorts.length else -1
def constructorI (b : Bl) (base k : Int) : Int := placeI base (b.sorts.length + decsN b.sorts) k b.cons.length
def eliminatorI (b : Bl) (base k : Int) : Int := placeI base (b.sorts.length + decsN b.sorts + b.cons.length) k b.sorts.length

theorem decsN_le (l : List Sr) : decsN l ≤ l.length := List.countP_le_length
theorem decsN_take_succ {l : List Sr} {j : Nat} {s : Sr} (h : l[j]? = some s) : decsN (l.take (j + 1)) = decsN (l.take j) + (if s.dec = true then 1 else 0) := by
  unfold decsN
  rw [List.take_add_one, h, Option.toList_some, List.countP_append]
  simp [List.countP_cons]

theorem place_spec (base ahead k many : Int) (h1 : 0 ≤ ahead ∧ ahead ≤ 4194304) (h2 : many ≤ 4194304) : FC Tryz.prog 169 [.int .i64 base, .int .i64 ahead, .int .i64 k, .int .i64 many] (.int .i64 (placeI base ahead k many)) := by
  refine FC_intro hty Tryz.func169 rfl rfl rfl fun w0 => ?_
  repeat' (first | refine WL_p hty rfl rfl ?_ | refine WL_nil ?_ | refine AC_seq ?_ | refine AC_region ?_ | refine AC_skip ?_ | refine AC_condT rfl ?_ | refine AC_condF rfl ?_ | refine AC_ret ?_ | refine WL_ung rfl rfl ?_ | refine WL_offT rfl rfl rfl ?_ | refine WL_offF rfl rfl rfl ?_ | refine WL_offU rfl rfl rfl ?_ | refine ends_bool rfl ?_ | refine WL_cmp rfl rfl rfl rfl (fun _ => ?_) (fun _ => ?_) | refine AC_cond rfl (fun _ => ?_) (fun _ => ?_))
  all_goals refine ends_int rfl ?_
  all_goals unfold placeI
  all_goals first
    | (rw [if_pos (by assumption)]; done)
    | (rw [if_neg (by assumption), if_pos (by assumption)]; done)
    | (rw [if_neg (by assumption), if_neg (by assumption), if_pos (by assumption)]; done)
    | (rw [if_neg (by assumption), if_neg (by assumption), if_neg (by assumption), if_pos (by assumption)]; done)
    | (rw [if_neg (by assumption), if_neg (by assumption), if_neg (by assumption), if_neg (by assumption)]
       rw [wrap_ok (n := base + ahead) (by omega) (by omega)]
       exact wrap_ok (by omega) (by omega))

theorem decs_spec (b : Bl) (k : Nat) (hb : b.size ≤ 1048576) (hk : k ≤ b.sorts.length) : FC Tryz.prog 137 [aB b, .int .i64 (k : Nat)] (.int .i64 (decsN (b.sorts.take k) : Nat)) := by
  unfold Bl.size at hb
  have hsl := len_le_sizesS b.sorts
  have hrl : ((rsS b.sorts).take k).drop 0 = rsS (b.sorts.take k) := by rw [List.drop_zero, rsS_map, rsS_map, List.map_take]
  have htl : (b.sorts.take k).length = k := by rw [List.length_take]; omega
  refine FC_intro hty Tryz.func137 rfl rfl rfl fun w0 => ?_
  repeat' (first | refine WL_m rfl (m_sliceL hty 0 k rfl rfl rfl ⟨_, _, rfl, rfl⟩ (Nat.zero_le _) (by rw [rsS_length]; exact hk) rfl) ?_ | refine WL_p hty rfl rfl ?_ | refine WL_nil ?_ | refine AC_seq ?_ | refine AC_region ?_ | refine AC_block ?_ | refine AC_skip ?_ | refine AC_condT rfl ?_ | refine AC_condF rfl ?_ | refine AC_exit ?_ | refine AC_ret ?_ | refine WL_m rfl (m_idxN hty rfl rfl rfl (by assumption) rfl) ?_ | refine ends_bool rfl ?_ | refine WL_cmp rfl rfl rfl rfl (fun _ => ?_) (fun _ => ?_) | refine AC_cond rfl (fun _ => ?_) (fun _ => ?_))
  refine AC_for k (fun _ => True) (fun j => ⟨envOf [(5, .int .i64 (decsN (b.sorts.take j) : Nat)), (11, .lst 6 (rsS (b.sorts.take k)) false), (12, .int .i64 (k : Nat)), (13, .int .i64 (j : Nat))], bkOf []⟩)
    (less_sub ⟨⟨_, rfl, .inl ⟨.refl _, rfl⟩⟩, ⟨_, rfl, see_eq ?_ rfl⟩, ⟨_, rfl, see_eq ?_ rfl⟩, ⟨_, rfl, .inl ⟨.refl _, rfl⟩⟩, trivial⟩ trivial) trivial ?_
  · rw [hrl]; rfl
  · rw [hrl, rsS_length, htl]
  intro j hj _
  repeat' (first | refine WL_p hty rfl rfl ?_ | refine WL_nil ?_ | refine AC_seq ?_ | refine AC_region ?_ | refine AC_block ?_ | refine AC_skip ?_ | refine AC_condT rfl ?_ | refine AC_condF rfl ?_ | refine AC_exit ?_ | refine AC_ret ?_ | refine WL_m rfl (m_idxN hty rfl rfl rfl (by assumption) rfl) ?_ | refine ends_bool rfl ?_)
  refine WL_cmp rfl rfl rfl rfl (fun hc => ?_) (fun hc => ?_)
  · have hlt : j < k := by omega
    obtain ⟨s, hs, hmem⟩ := get_of_lt (show j < b.sorts.length by omega)
    have hs' : (b.sorts.take k)[j]? = some s := by rw [List.getElem?_take, if_pos hlt]; exact hs
    have rs := rsS_get hs'
    have hle := decsN_le (b.sorts.take j)
    have hjl : (b.sorts.take j).length = j := by rw [List.length_take]; omega
    have hts := decsN_take_succ hs
    obtain ⟨sx, sl, sd, st⟩ := s
    cases sd
    · repeat' (first | refine WL_p hty rfl rfl ?_ | refine WL_nil ?_ | refine AC_seq ?_ | refine AC_region ?_ | refine AC_block ?_ | refine AC_skip ?_ | refine AC_condT rfl ?_ | refine AC_condF rfl ?_ | refine AC_exit ?_ | refine AC_ret ?_ | refine WL_m rfl (m_idxN hty rfl rfl rfl (by assumption) rfl) ?_ | refine ends_bool rfl ?_ | refine WL_cmp rfl rfl rfl rfl (fun _ => ?_) (fun _ => ?_) | refine AC_cond rfl (fun _ => ?_) (fun _ => ?_))
      refine ⟨hlt, trivial, (less_sub ⟨⟨_, rfl, see_eq ?_ rfl⟩, ⟨_, rfl, .inl ⟨.refl _, rfl⟩⟩, ⟨_, rfl, .inl ⟨.refl _, rfl⟩⟩, ⟨_, rfl, see_eq ?_ rfl⟩, trivial⟩ trivial)⟩
      · rw [hts]; rfl
      · exact congrArg (AV.int .i64) ((wrap_ok (by omega) (by omega)).trans (by omega))
    · repeat' (first | refine WL_p hty rfl rfl ?_ | refine WL_nil ?_ | refine AC_seq ?_ | refine AC_region ?_ | refine AC_block ?_ | refine AC_skip ?_ | refine AC_condT rfl ?_ | refine AC_condF rfl ?_ | refine AC_exit ?_ | refine AC_ret ?_ | refine WL_m rfl (m_idxN hty rfl rfl rfl (by assumption) rfl) ?_ | refine ends_bool rfl ?_ | refine WL_cmp rfl rfl rfl rfl (fun _ => ?_) (fun _ => ?_) | refine AC_cond rfl (fun _ => ?_) (fun _ => ?_))
      refine ⟨hlt, trivial, (less_sub ⟨⟨_, rfl, see_eq ?_ rfl⟩, ⟨_, rfl, .inl ⟨.refl _, rfl⟩⟩, ⟨_, rfl, .inl ⟨.refl _, rfl⟩⟩, ⟨_, rfl, see_eq ?_ rfl⟩, trivial⟩ trivial)⟩
      · rw [hts]
        exact congrArg (AV.int .i64) ((wrap_ok (by omega) (by omega)).trans (by simp))
      · exact congrArg (AV.int .i64) ((wrap_ok (by omega) (by omega)).trans (by omega))
  · obtain rfl : j = k := by omega
    repeat' (first | refine WL_p hty rfl rfl ?_ | refine WL_nil ?_ | refine AC_seq ?_ | refine AC_region ?_ | refine AC_block ?_ | refine AC_skip ?_ | refine AC_condT rfl ?_ | refine AC_condF rfl ?_ | refine AC_exit ?_ | refine AC_ret ?_ | refine WL_m rfl (m_idxN hty rfl rfl rfl (by assumption) rfl) ?_ | refine ends_bool rfl ?_ | refine WL_cmp rfl rfl rfl rfl (fun _ => ?_) (fun _ => ?_) | refine AC_cond rfl (fun _ => ?_) (fun _ => ?_))
    exact ends_int rfl rfl

theorem count_spec (b : Bl) (hb : b.size ≤ 1048576) : FC Tryz.prog 92 [aB b] (.int .i64 (countN b : Nat)) := by
  have hb' := hb
  unfold Bl.size at hb'
  have hsl := len_le_sizesS b.sorts
  have hcl := len_le_sizesC b.cons
  have hdl := decsN_le b.sorts
  have hd := decs_spec b b.sorts.length hb (Nat.le_refl _)
  rw [List.take_length, ← rsS_length b.sorts] at hd
  refine FC_intro hty Tryz.func92 rfl rfl rfl fun w0 => ?_
  repeat' (first | refine AC_drawnE (id := 1) tbShapeN92_1 rfl (by kernel_rfl) ?_ | refine WE_cons (.inl ⟨rfl, m_call 0 rfl hd rfl rfl rfl⟩) ?_ | refine WE_cons (.inl ⟨rfl, stepE_ok hty rfl rfl⟩) ?_ | refine WE_nil ⟨by kernel_rfl, ?_⟩ | refine WL_p hty rfl rfl ?_ | refine WL_nil ?_ | refine AC_seq ?_ | refine AC_region ?_ | refine AC_skip ?_ | refine AC_ret ?_ | refine ends_bool rfl ?_)
  refine ends_int rfl ?_
  rw [rsS_length, rsC_length]
  unfold countN
  rw [wrap_ok (n := 2 * (b.sorts.length : Int)) (by omega) (by omega), wrap_ok (n := 2 * (b.sorts.length : Int) + (decsN b.sorts : Int)) (by omega) (by omega)]
  exact (wrap_ok (by omega) (by omega)).trans (by omega)

theorem former_spec (b : Bl) (base k : Int) (hb : b.size ≤ 1048576) : FC Tryz.prog 124 [aB b, .int .i64 base, .int .i64 k] (.int .i64 (formerI b base k)) := by
  unfold Bl.size at hb
  have hsl := len_le_sizesS b.sorts
  have hp := place_spec base 0 k ((rsS b.sorts).length : Nat) (by omega) (by rw [rsS_length]; omega)
  refine FC_intro hty Tryz.func124 rfl rfl rfl fun w0 => ?_
  repeat' (first | refine WL_call 0 rfl hp rfl rfl rfl ?_ | refine WL_p hty rfl rfl ?_ | refine WL_nil ?_ | refine AC_seq ?_ | refine AC_region ?_ | refine AC_skip ?_ | refine AC_ret ?_ | refine ends_bool rfl ?_)
  refine ends_int rfl ?_
  rw [rsS_length]; rfl

theorem constructor_spec (b : Bl) (base k : Int) (hb : b.size ≤ 1048576) : FC Tryz.prog 126 [aB b, .int .i64 base, .int .i64 k] (.int .i64 (constructorI b base k)) := by
  have hb' := hb
  unfold Bl.size at hb'
  have hsl := len_le_sizesS b.sorts
  have hcl := len_le_sizesC b.cons
  have hdl := decsN_le b.sorts
  have hd := decs_spec b b.sorts.length hb (Nat.le_refl _)
  rw [List.take_length, ← rsS_length b.sorts] at hd
  have w1 : IntKind.i64.wrap (((rsS b.sorts).length : Int) + (decsN b.sorts : Nat)) = (b.sorts.length : Int) + (decsN b.sorts : Nat) := by rw [rsS_length]; exact wrap_ok (by omega) (by omega)
  have hp := place_spec base (IntKind.i64.wrap (((rsS b.sorts).length : Int) + (decsN b.sorts : Nat))) k ((rsC b.cons).length : Nat) (by rw [w1]; omega) (by rw [rsC_length]; omega)
  refine FC_intro hty Tryz.func126 rfl rfl rfl fun w0 => ?_
  repeat' (first | refine AC_drawnE (id := 1) tbShapeN126_1 rfl (by kernel_rfl) ?_ | refine WE_cons (.inl ⟨rfl, m_call 0 rfl hd rfl rfl rfl⟩) ?_ | refine WE_cons (.inl ⟨rfl, m_call 0 rfl hp rfl rfl rfl⟩) ?_ | refine WE_cons (.inl ⟨rfl, stepE_ok hty rfl rfl⟩) ?_ | refine WE_nil ⟨by kernel_rfl, ?_⟩ | refine WL_p hty rfl rfl ?_ | refine WL_nil ?_ | refine AC_seq ?_ | refine AC_region ?_ | refine AC_skip ?_ | refine AC_ret ?_ | refine ends_bool rfl ?_)
  refine ends_int rfl ?_
  rw [w1, rsC_length]; rfl

theorem eliminator_spec (b : Bl) (base k : Int) (hb : b.size ≤ 1048576) : FC Tryz.prog 127 [aB b, .int .i64 base, .int .i64 k] (.int .i64 (eliminatorI b base k)) := by
  have hb' := hb
  unfold Bl.size at hb'
  have hsl := len_le_sizesS b.sorts
  have hcl := len_le_sizesC b.cons
  have hdl := decsN_le b.sorts
  have hd := decs_spec b b.sorts.length hb (Nat.le_refl _)
  rw [List.take_length, ← rsS_length b.sorts] at hd
  have w1 : IntKind.i64.wrap (((rsS b.sorts).length : Int) + (decsN b.sorts : Nat)) = (b.sorts.length : Int) + (decsN b.sorts : Nat) := by rw [rsS_length]; exact wrap_ok (by omega) (by omega)
  have w2 : IntKind.i64.wrap (IntKind.i64.wrap (((rsS b.sorts).length : Int) + (decsN b.sorts : Nat)) + ((rsC b.cons).length : Nat)) = (b.sorts.length : Int) + (decsN b.sorts : Nat) + b.cons.length := by rw [w1, rsC_length]; exact wrap_ok (by omega) (by omega)
  have hp := place_spec base (IntKind.i64.wrap (IntKind.i64.wrap (((rsS b.sorts).length : Int) + (decsN b.sorts : Nat)) + ((rsC b.cons).length : Nat))) k ((rsS b.sorts).length : Nat) (by rw [w2]; omega) (by rw [rsS_length]; omega)
  refine FC_intro hty Tryz.func127 rfl rfl rfl fun w0 => ?_
  repeat' (first | refine AC_drawnE (id := 1) tbShapeN127_1 rfl (by kernel_rfl) ?_ | refine WE_cons (.inl ⟨rfl, m_call 0 rfl hd rfl rfl rfl⟩) ?_ | refine WE_cons (.inl ⟨rfl, m_call 0 rfl hp rfl rfl rfl⟩) ?_ | refine WE_cons (.inl ⟨rfl, stepE_ok hty rfl rfl⟩) ?_ | refine WE_nil ⟨by kernel_rfl, ?_⟩ | refine WL_p hty rfl rfl ?_ | refine WL_nil ?_ | refine AC_seq ?_ | refine AC_region ?_ | refine AC_skip ?_ | refine AC_ret ?_ | refine ends_bool rfl ?_)
  refine ends_int rfl ?_
  rw [w2, rsS_length]; rfl

theorem decoder_spec (b : Bl) (base k : Int) (hb : b.size ≤ 1048576) : FC Tryz.prog 125 [aB b, .int .i64 base, .int .i64 k] (.int .i64 (decoderI b base k)) := by
  have hb' := hb
  unfold Bl.size at hb'
  have hsl := len_le_sizesS b.sorts
  by_cases h0 : 0 ≤ k ∧ k.toNat < b.sorts.length
  · obtain ⟨s, hs, _⟩ := get_of_lt h0.2
    have rs := rsS_get hs
    have hd := decs_spec b k.toNat hb (by omega)
    have hkk : ((k.toNat : Nat) : Int) = k := by omega
    rw [hkk] at hd
    have hdl := decsN_le (b.sorts.take k.toNat)
    have htl : (b.sorts.take k.toNat).length ≤ b.sorts.length := by rw [List.length_take]; omega
    have hp := place_spec base ((rsS b.sorts).length : Nat) (decsN (b.sorts.take k.toNat) : Nat) ((rsS b.sorts).length : Nat) (by rw [rsS_length]; omega) (by rw [rsS_length]; omega)
    have hn1 : ¬ k < 0 := by omega
    have hn2 : ¬ ((rsS b.sorts).length : Int) ≤ k := by rw [rsS_length]; omega
    have hde : decS b k = s.dec := by unfold decS; rw [hs]
    have hdi : decoderI b base k = if s.dec = true then placeI base b.sorts.length (decsN (b.sorts.take k.toNat)) b.sorts.length else -1 := by
      unfold decoderI; rw [if_neg hn1, if_neg (by rw [← rsS_length]; exact hn2), hde]
    obtain ⟨sx, sl, sd, st⟩ := s
    cases sd
    · refine FC_intro hty Tryz.func125 rfl rfl rfl fun w0 => ?_
      repeat' (first | exact absurd (by assumption) hn1 | exact absurd (by assumption) hn2 | refine WL_m rfl (m_idxL hty rfl rfl rfl h0.1 rs rfl) ?_ | refine WL_p hty rfl rfl ?_ | refine WL_nil ?_ | refine AC_seq ?_ | refine AC_region ?_ | refine AC_skip ?_ | refine AC_condT rfl ?_ | refine AC_condF rfl ?_ | refine AC_ret ?_ | refine WL_ung rfl rfl ?_ | refine WL_offT rfl rfl rfl ?_ | refine WL_offF rfl rfl rfl ?_ | refine WL_offU rfl rfl rfl ?_ | refine WL_m rfl (m_idxN hty rfl rfl rfl (by assumption) rfl) ?_ | refine ends_bool rfl ?_ | refine WL_cmp rfl rfl rfl rfl (fun _ => ?_) (fun _ => ?_) | refine AC_cond rfl (fun _ => ?_) (fun _ => ?_))
      exact ends_int rfl hdi.symm
    · refine FC_intro hty Tryz.func125 rfl rfl rfl fun w0 => ?_
      repeat' (first | exact absurd (by assumption) hn1 | exact absurd (by assumption) hn2 | refine WL_m rfl (m_idxL hty rfl rfl rfl h0.1 rs rfl) ?_ | refine AC_drawnE (id := 3) tbShapeN125_3 rfl (by kernel_rfl) ?_ | refine WE_cons (.inl ⟨rfl, m_call 0 rfl hd rfl rfl rfl⟩) ?_ | refine WE_cons (.inl ⟨rfl, m_call 0 rfl hp rfl rfl rfl⟩) ?_ | refine WE_cons (.inl ⟨rfl, stepE_ok hty rfl rfl⟩) ?_ | refine WE_nil ⟨by kernel_rfl, ?_⟩ | refine WL_p hty rfl rfl ?_ | refine WL_nil ?_ | refine AC_seq ?_ | refine AC_region ?_ | refine AC_skip ?_ | refine AC_condT rfl ?_ | refine AC_condF rfl ?_ | refine AC_ret ?_ | refine WL_ung rfl rfl ?_ | refine WL_offT rfl rfl rfl ?_ | refine WL_offF rfl rfl rfl ?_ | refine WL_offU rfl rfl rfl ?_ | refine WL_m rfl (m_idxN hty rfl rfl rfl (by assumption) rfl) ?_ | refine ends_bool rfl ?_ | refine WL_cmp rfl rfl rfl rfl (fun _ => ?_) (fun _ => ?_) | refine AC_cond rfl (fun _ => ?_) (fun _ => ?_))
      refine ends_int rfl ?_
      rw [hdi, rsS_length]; rfl
  · have hdi : decoderI b base k = -1 := by
      unfold decoderI
      split
      · rfl
      · rw [if_pos (by omega)]
    rw [hdi]
    refine FC_intro hty Tryz.func125 rfl rfl rfl fun w0 => ?_
    repeat' (first | exact absurd (by rw [rsS_length] at *; omega) h0 | refine WL_p hty rfl rfl ?_ | refine WL_nil ?_ | refine AC_seq ?_ | refine AC_region ?_ | refine AC_skip ?_ | refine AC_condT rfl ?_ | refine AC_condF rfl ?_ | refine AC_ret ?_ | refine WL_ung rfl rfl ?_ | refine WL_offT rfl rfl rfl ?_ | refine WL_offF rfl rfl rfl ?_ | refine WL_offU rfl rfl rfl ?_ | refine WL_m rfl (m_idxN hty rfl rfl rfl (by assumption) rfl) ?_ | refine ends_bool rfl ?_ | refine WL_cmp rfl rfl rfl rfl (fun _ => ?_) (fun _ => ?_) | refine AC_cond rfl (fun _ => ?_) (fun _ => ?_))
    all_goals exact ends_int rfl rfl

end Go.Proofs.YtlonpgdnmngnmaaGreat

/-
  Which constant of a block a number is.
-/
namespace Go.Proofs.YtlonpgdnmngnmaaGreat
set_option linter.unusedSimpArgs false
set_option linter.unusedVariables false
open Go.Aw Go.RowKit
attribute [local irreducible] WL AC WD WE MStep OkOp

/-- The first kind, and the first of that kind, that has the number. -/
def ofL : List (Int × Nat × (Int → Int)) → Int → Int × Int
  | [], _ => (0, 0)
  | (k, m, f) :: l, n => if 0 ≤ idxF (fun i : Nat => decide (f i = n)) (List.range m) then (k, idxF (fun i : Nat => decide (f i = n)) (List.range m)) else ofL l n
def ofRows (b : Bl) (base : Int) : List (Int × Nat × (Int → Int)) := [(3, b.sorts.length, formerI b base), (4, b.sorts.length, decoderI b base), (5, b.cons.length, constructorI b base), (6, b.sorts.length, eliminatorI b base)]
def ofB (b : Bl) (base n : Int) : Int × Int := if base < 0 then (0, 0) else if 65535 < base then (0, 0) else if n < base then (0, 0) else if (countN b : Int) ≤ n - base then (0, 0) else ofL (ofRows b base) n

theorem range_get {m i : Nat} (h : i < m) : (List.range m)[i]? = some i := by rw [List.getElem?_range h]

def ofG : List (Nat × Int × Nat × (Int → Int)) → List (Int × Nat × (Int → Int)) := fun l => l.map (·.2)

set_option maxHeartbeats 4000000 in
theorem of4_spec (b : Bl) (base n : Int) (hb : b.size ≤ 1048576) (hn : n ≤ 4294967296) : FC Tryz.prog 172 [aB b, .int .i64 base, .int .i64 n] (.tup [.int .i64 (ofB b base n).1, .int .i64 (ofB b base n).2]) := by
  have hb' := hb
  unfold Bl.size at hb'
  have hsl := len_le_sizesS b.sorts
  have hcl := len_le_sizesC b.cons
  have hdl := decsN_le b.sorts
  have hcn := count_spec b hb
  have f3 : ∀ k, FC Tryz.prog 124 [aB b, .int .i64 base, .int .i64 k] (.int .i64 (formerI b base k)) := fun k => former_spec b base k hb
  have f4 : ∀ k, FC Tryz.prog 125 [aB b, .int .i64 base, .int .i64 k] (.int .i64 (decoderI b base k)) := fun k => decoder_spec b base k hb
  have f5 : ∀ k, FC Tryz.prog 126 [aB b, .int .i64 base, .int .i64 k] (.int .i64 (constructorI b base k)) := fun k => constructor_spec b base k hb
  have f6 : ∀ k, FC Tryz.prog 127 [aB b, .int .i64 base, .int .i64 k] (.int .i64 (eliminatorI b base k)) := fun k => eliminator_spec b base k hb
  obtain ⟨rows, hrows⟩ : ∃ rows : List (Nat × Int × Nat × (Int → Int)), rows = [(124, 3, b.sorts.length, formerI b base), (125, 4, b.sorts.length, decoderI b base), (126, 5, b.cons.length, constructorI b base), (127, 6, b.sorts.length, eliminatorI b base)] := ⟨_, rfl⟩
  have hrs : ∀ r, r ∈ rows → r.2.2.1 ≤ 1048576 ∧ ∀ k, FC Tryz.prog r.1 [aB b, .int .i64 base, .int .i64 k] (.int .i64 (r.2.2.2 k)) := by
    intro r hr
    rw [hrows] at hr
    simp only [List.mem_cons, List.not_mem_nil, or_false] at hr
    rcases hr with rfl | rfl | rfl | rfl
    · exact ⟨by show b.sorts.length ≤ _; omega, f3⟩
    · exact ⟨by show b.sorts.length ≤ _; omega, f4⟩
    · exact ⟨by show b.cons.length ≤ _; omega, f5⟩
    · exact ⟨by show b.sorts.length ≤ _; omega, f6⟩
  have hof : ofRows b base = rows.map (·.2) := by rw [hrows]; rfl
  have hlen : rows.length = 4 := by rw [hrows]; rfl
  obtain ⟨R, hR⟩ : ∃ R : List (List AV), R = rows.map (fun r => [.int .i64 r.2.1, .int .i64 (r.2.2.1 : Nat), .fn (.func r.1) [] []]) := ⟨_, rfl⟩
  have hR4 : R = [[.int .i64 3, .int .i64 ((rsS b.sorts).length : Nat), .fn (.func 124) [] []], [.int .i64 4, .int .i64 ((rsS b.sorts).length : Nat), .fn (.func 125) [] []], [.int .i64 5, .int .i64 ((rsC b.cons).length : Nat), .fn (.func 126) [] []], [.int .i64 6, .int .i64 ((rsS b.sorts).length : Nat), .fn (.func 127) [] []]] := by rw [hR, hrows, rsS_length, rsC_length]; rfl
  have hRl : R.length = 4 := by rw [hR, List.length_map, hlen]
  have hwn : ¬ base < 0 → ¬ 65535 < base → ¬ n < base → IntKind.i64.wrap (n - base) = n - base := fun q1 q2 q3 => wrap_ok (by omega) (by omega)
  refine FC_intro hty Tryz.func172 rfl rfl rfl fun w0 => ?_
  repeat' (first | refine WL_call 0 rfl hcn rfl rfl rfl ?_ | refine WL_p hty rfl rfl ?_ | refine WL_nil ?_ | refine AC_seq ?_ | refine AC_region ?_ | refine AC_block ?_ | refine AC_skip ?_ | refine AC_condT rfl ?_ | refine AC_condF rfl ?_ | refine AC_exit ?_ | refine AC_ret ?_ | refine WL_ung rfl rfl ?_ | refine WL_offT rfl rfl rfl ?_ | refine WL_offF rfl rfl rfl ?_ | refine WL_offU rfl rfl rfl ?_ | refine WL_m rfl (m_idxN hty rfl rfl rfl (by assumption) rfl) ?_ | refine ends_bool rfl ?_ | refine WL_cmp rfl rfl rfl rfl (fun _ => ?_) (fun _ => ?_) | refine AC_cond rfl (fun _ => ?_) (fun _ => ?_))
  · rw [show ofB b base n = (0, 0) by unfold ofB; rw [if_pos (by assumption)]]
    exact ends_wk rfl rfl (.refl _)
  · rw [show ofB b base n = (0, 0) by unfold ofB; rw [if_neg (by assumption), if_pos (by assumption)]]
    exact ends_wk rfl rfl (.refl _)
  · rw [show ofB b base n = (0, 0) by unfold ofB; rw [if_neg (by assumption), if_neg (by assumption), if_pos (by assumption)]]
    exact ends_wk rfl rfl (.refl _)
  · rename_i h1 h2 h3 h4
    rw [hwn h1 h2 h3] at h4
    rw [show ofB b base n = (0, 0) by unfold ofB; rw [if_neg h1, if_neg h2, if_neg h3, if_pos h4]]
    exact ends_wk rfl rfl (.refl _)
  rename_i h1 h2 h3 h4
  rw [hwn h1 h2 h3] at h4
  have hb1 : ofB b base n = ofL (rows.map (·.2)) n := by unfold ofB; rw [if_neg h1, if_neg h2, if_neg h3, if_neg h4, hof]
  rw [hb1]
  refine AC_for 4 (fun j => ofL (rows.map (·.2)) n = ofL ((rows.drop j).map (·.2)) n) (fun j => ⟨envOf [(1, .int .i64 base), (2, .int .i64 n), (3, .ptr 3 0), (46, .lst 3 R true), (47, .int .i64 4), (48, .int .i64 (j : Nat))], bkOf [(3, .box (cB b))]⟩)
    (less_sub ⟨⟨_, rfl, .inl ⟨.refl _, rfl⟩⟩, ⟨_, rfl, .inl ⟨.refl _, rfl⟩⟩, ⟨_, rfl, .inl ⟨.refl _, rfl⟩⟩, ⟨_, rfl, see_eq ?_ rfl⟩, ⟨_, rfl, .inl ⟨.refl _, rfl⟩⟩, ⟨_, rfl, .inl ⟨.refl _, rfl⟩⟩, trivial⟩ ⟨⟨⟨_, rfl, .refl _⟩, rfl⟩, trivial⟩) rfl ?_
  · rw [hR4]
  intro j hj hI
  repeat' (first | refine WL_p hty rfl rfl ?_ | refine WL_nil ?_ | refine AC_seq ?_ | refine AC_region ?_ | refine AC_block ?_ | refine AC_skip ?_ | refine AC_condT rfl ?_ | refine AC_condF rfl ?_ | refine AC_exit ?_ | refine AC_ret ?_ | refine WL_ung rfl rfl ?_ | refine WL_offT rfl rfl rfl ?_ | refine WL_offF rfl rfl rfl ?_ | refine WL_offU rfl rfl rfl ?_ | refine WL_m rfl (m_idxN hty rfl rfl rfl (by assumption) rfl) ?_ | refine ends_bool rfl ?_)
  refine WL_cmp rfl rfl rfl rfl (fun hc => ?_) (fun hc => ?_)
  · have hlt : j < 4 := by omega
    obtain ⟨⟨g, kd, m, f⟩, hr, hmem⟩ := get_of_lt (show j < rows.length by omega)
    obtain ⟨hm, hfc⟩ := hrs _ hmem
    simp only at hm hfc
    have rR : R[j]? = some [.int .i64 kd, .int .i64 (m : Nat), .fn (.func g) [] []] := by rw [hR, List.getElem?_map, hr]; rfl
    have hdr : rows.drop j = (g, kd, m, f) :: rows.drop (j + 1) := by
      rw [List.drop_eq_getElem_cons (show j < rows.length by omega)]
      rw [List.getElem?_eq_getElem (show j < rows.length by omega)] at hr
      rw [Option.some.inj hr]
    rw [hdr, List.map_cons] at hI
    simp only [ofL] at hI
    rw [hI]
    repeat' (first | refine WL_m rfl (m_idxN (i := j) hty rfl rfl rfl rR rfl) ?_ | refine WL_p hty rfl rfl ?_ | refine WL_nil ?_ | refine AC_seq ?_ | refine AC_region ?_ | refine AC_block ?_ | refine AC_skip ?_ | refine AC_condT rfl ?_ | refine AC_condF rfl ?_ | refine AC_exit ?_ | refine AC_ret ?_ | refine WL_ung rfl rfl ?_ | refine WL_offT rfl rfl rfl ?_ | refine WL_offF rfl rfl rfl ?_ | refine WL_offU rfl rfl rfl ?_ | refine WL_m rfl (m_idxN hty rfl rfl rfl (by assumption) rfl) ?_ | refine ends_bool rfl ?_ | refine WL_cmp rfl rfl rfl rfl (fun _ => ?_) (fun _ => ?_) | refine AC_cond rfl (fun _ => ?_) (fun _ => ?_))
    refine AC_for m (fun k => ((List.range m).take k).any (fun i : Nat => decide (f i = n)) = false) (fun k => ⟨envOf [(1, .int .i64 base), (2, .int .i64 n), (3, .ptr 3 0), (9, .ptr 9 0), (46, .lst 3 R true), (47, .int .i64 4), (48, .int .i64 (j : Nat)), (53, .int .i64 (m : Nat)), (54, .int .i64 (k : Nat))],
        bkOf [(3, .box (cB b)), (9, .box [.int .i64 kd, .int .i64 (m : Nat), .fn (.func g) [] []])]⟩)
      (less_sub ⟨⟨_, rfl, .inl ⟨.refl _, rfl⟩⟩, ⟨_, rfl, .inl ⟨.refl _, rfl⟩⟩, ⟨_, rfl, .inl ⟨.refl _, rfl⟩⟩, ⟨_, rfl, .inl ⟨.refl _, rfl⟩⟩, ⟨_, rfl, .inl ⟨.refl _, rfl⟩⟩, ⟨_, rfl, .inl ⟨.refl _, rfl⟩⟩, ⟨_, rfl, .inl ⟨.refl _, rfl⟩⟩, ⟨_, rfl, .inl ⟨.refl _, rfl⟩⟩, ⟨_, rfl, .inl ⟨.refl _, rfl⟩⟩, trivial⟩ ⟨⟨⟨_, rfl, .refl _⟩, rfl⟩, ⟨⟨_, rfl, .refl _⟩, rfl⟩, trivial⟩) rfl ?_
    intro k hk hJ
    repeat' (first | refine WL_p hty rfl rfl ?_ | refine WL_nil ?_ | refine AC_seq ?_ | refine AC_region ?_ | refine AC_block ?_ | refine AC_skip ?_ | refine AC_condT rfl ?_ | refine AC_condF rfl ?_ | refine AC_exit ?_ | refine AC_ret ?_ | refine WL_ung rfl rfl ?_ | refine WL_offT rfl rfl rfl ?_ | refine WL_offF rfl rfl rfl ?_ | refine WL_offU rfl rfl rfl ?_ | refine WL_m rfl (m_idxN hty rfl rfl rfl (by assumption) rfl) ?_ | refine ends_bool rfl ?_)
    refine WL_cmp rfl rfl rfl rfl (fun hc => ?_) (fun hc => ?_)
    · have hkm : k < m := by omega
      repeat' (first | refine WL_m rfl (m_callF 0 rfl rfl rfl (hfc (k : Nat)) rfl rfl rfl) ?_ | refine WL_p hty rfl rfl ?_ | refine WL_nil ?_ | refine AC_seq ?_ | refine AC_region ?_ | refine AC_block ?_ | refine AC_skip ?_ | refine AC_condT rfl ?_ | refine AC_condF rfl ?_ | refine AC_exit ?_ | refine AC_ret ?_ | refine WL_ung rfl rfl ?_ | refine WL_offT rfl rfl rfl ?_ | refine WL_offF rfl rfl rfl ?_ | refine WL_offU rfl rfl rfl ?_ | refine WL_m rfl (m_idxN hty rfl rfl rfl (by assumption) rfl) ?_ | refine ends_bool rfl ?_ | refine WL_cmp rfl rfl rfl rfl (fun _ => ?_) (fun _ => ?_) | refine AC_cond rfl (fun _ => ?_) (fun _ => ?_))
      · rename_i hfk
        have hid : idxF (fun i : Nat => decide (f i = n)) (List.range m) = (k : Nat) := idxF_hit (a := k) (by simp [hfk]) hJ (range_get hkm)
        rw [hid, if_pos (Int.natCast_nonneg _)]
        exact ends_wk rfl rfl (.refl _)
      · rename_i hfk
        refine ⟨hkm, ?_, (less_sub ⟨⟨_, rfl, .inl ⟨.refl _, rfl⟩⟩, ⟨_, rfl, .inl ⟨.refl _, rfl⟩⟩, ⟨_, rfl, .inl ⟨.refl _, rfl⟩⟩, ⟨_, rfl, .inl ⟨.refl _, rfl⟩⟩, ⟨_, rfl, .inl ⟨.refl _, rfl⟩⟩, ⟨_, rfl, .inl ⟨.refl _, rfl⟩⟩, ⟨_, rfl, .inl ⟨.refl _, rfl⟩⟩, ⟨_, rfl, .inl ⟨.refl _, rfl⟩⟩, ⟨_, rfl, see_eq ?_ rfl⟩, trivial⟩ ⟨⟨⟨_, rfl, .refl _⟩, rfl⟩, ⟨⟨_, rfl, .refl _⟩, rfl⟩, trivial⟩)⟩
        · rw [any_take_succ (range_get hkm), hJ]; simp [hfk]
        · exact congrArg (AV.int .i64) ((wrap_ok (by omega) (by omega)).trans (by omega))
    · obtain rfl : k = m := by omega
      have hid : idxF (fun i : Nat => decide (f i = n)) (List.range k) = -1 := idxF_none (by rw [List.take_of_length_le (by rw [List.length_range]; exact Nat.le_refl _)] at hJ; exact hJ)
      rw [hid, if_neg (by decide)] at hI ⊢
      repeat' (first | refine WL_p hty rfl rfl ?_ | refine WL_nil ?_ | refine AC_seq ?_ | refine AC_region ?_ | refine AC_block ?_ | refine AC_skip ?_ | refine AC_condT rfl ?_ | refine AC_condF rfl ?_ | refine AC_exit ?_ | refine AC_ret ?_ | refine WL_ung rfl rfl ?_ | refine WL_offT rfl rfl rfl ?_ | refine WL_offF rfl rfl rfl ?_ | refine WL_offU rfl rfl rfl ?_ | refine WL_m rfl (m_idxN hty rfl rfl rfl (by assumption) rfl) ?_ | refine ends_bool rfl ?_ | refine WL_cmp rfl rfl rfl rfl (fun _ => ?_) (fun _ => ?_) | refine AC_cond rfl (fun _ => ?_) (fun _ => ?_))
      refine ⟨hlt, rfl, (less_sub ⟨⟨_, rfl, .inl ⟨.refl _, rfl⟩⟩, ⟨_, rfl, .inl ⟨.refl _, rfl⟩⟩, ⟨_, rfl, .inl ⟨.refl _, rfl⟩⟩, ⟨_, rfl, .inl ⟨.refl _, rfl⟩⟩, ⟨_, rfl, .inl ⟨.refl _, rfl⟩⟩, ⟨_, rfl, see_eq ?_ rfl⟩, trivial⟩ ⟨⟨⟨_, rfl, .refl _⟩, rfl⟩, trivial⟩)⟩
      exact congrArg (AV.int .i64) ((wrap_ok (by omega) (by omega)).trans (by omega))
  · obtain rfl : j = 4 := by omega
    have hd4 : rows.drop 4 = [] := List.drop_of_length_le (by omega)
    rw [hd4] at hI
    repeat' (first | refine WL_p hty rfl rfl ?_ | refine WL_nil ?_ | refine AC_seq ?_ | refine AC_region ?_ | refine AC_block ?_ | refine AC_skip ?_ | refine AC_condT rfl ?_ | refine AC_condF rfl ?_ | refine AC_exit ?_ | refine AC_ret ?_ | refine WL_ung rfl rfl ?_ | refine WL_offT rfl rfl rfl ?_ | refine WL_offF rfl rfl rfl ?_ | refine WL_offU rfl rfl rfl ?_ | refine WL_m rfl (m_idxN hty rfl rfl rfl (by assumption) rfl) ?_ | refine ends_bool rfl ?_ | refine WL_cmp rfl rfl rfl rfl (fun _ => ?_) (fun _ => ?_) | refine AC_cond rfl (fun _ => ?_) (fun _ => ?_))
    rw [hI]
    exact ends_wk rfl rfl (.refl _)

end Go.Proofs.YtlonpgdnmngnmaaGreat

/-
  The program's word on a block's shape: terms, arguments.
-/
namespace Go.Proofs.YtlonpgdnmngnmaaGreat
set_option linter.unusedSimpArgs false
set_option linter.unusedVariables false
open Go.Aw Go.RowKit
def tbShapeP179_3 : List (Nat × List Nat) := [(0, []), (1, [0]), (2, [0, 1]), (3, [0, 1, 2]), (4, [0, 1, 2, 3]), (5, [0, 1, 2, 3, 4]), (6, [0, 1, 2, 3, 4, 5]), (7, [0, 1, 2, 3, 4, 5, 6]), (8, [0, 1, 2, 3, 4, 5, 6, 7]), (9, [0, 1, 2, 3, 4, 5, 6, 7, 8]), (10, [0, 1, 2, 3, 4, 5, 6, 7, 8, 9]), (11, [0, 1, 2, 3, 4, 5, 6, 7, 8, 9, 10]), (12, [0, 1, 2, 3, 4, 5, 6, 7, 8, 9, 10, 11]), (13, [0, 1, 2, 3, 4, 5, 6, 7, 8, 9, 10, 11, 12]), (14, [0, 1, 2, 3, 4, 5, 6, 7, 8, 9, 10, 11, 12, 13]), (15, [0, 1, 2, 3, 4, 5, 6, 7, 8, 9, 10, 11, 12, 13, 14]), (16, [0, 1, 2, 3, 4, 5, 6, 7, 8, 9, 10, 11, 12, 13, 14, 15]), (17, [0, 1, 2, 3, 4, 5, 6, 7, 8, 9, 10, 11, 12, 13, 14, 15, 16]), (18, [0, 1, 2, 3, 4, 5, 6, 7, 8, 9, 10, 11, 12, 13, 14, 15]), (19, [0, 1, 2, 3, 4, 5, 6, 7, 8, 9, 10, 11, 12, 13, 14, 15, 18]), (20, [0, 1, 2, 3, 4, 5, 6, 7, 8, 9, 10, 11, 12, 13, 14, 15, 18, 19]), (21, [0, 1, 2, 3, 4, 5, 6, 7, 8, 9, 10, 11, 12, 13, 14, 15, 16, 17, 18, 19, 20]), (22, [0, 1, 2, 3, 4, 5, 6, 7, 8, 9, 10, 11, 12, 13, 14, 15, 16, 17, 18, 19, 20, 21]), (23, [0, 1, 2, 3, 4, 5, 6, 7, 8, 9, 10, 11, 12, 13, 14, 15, 16, 17, 18, 19, 20, 21, 22]), (24, [0, 1, 2, 3, 4, 5, 6, 7, 8, 9, 10, 11, 12, 13, 14, 15, 16, 17, 18, 19, 20, 21, 22, 23]), (25, [0, 1, 2, 3, 4, 5, 6, 7, 8, 9, 10, 11, 12, 13, 14, 15, 16, 17, 18, 19, 20, 21, 22, 23, 24]), (26, [0, 1, 2, 3, 4, 5, 6, 7, 8, 9, 10, 11, 12, 13, 14, 15, 16, 17, 18, 19, 20, 21, 22, 23, 24, 25]), (27, [0, 1, 2, 3, 4, 5, 6, 7, 8, 9, 10, 11, 12, 13, 14, 15, 16, 17, 18, 19, 20, 21, 22, 23]), (28, [0, 1, 2, 3, 4, 5, 6, 7, 8, 9, 10, 11, 12, 13, 14, 15, 16, 17, 18, 19, 20, 21, 22, 23, 27]), (29, [0, 1, 2, 3, 4, 5, 6, 7, 8, 9, 10, 11, 12, 13, 14, 15, 16, 17, 18, 19, 20, 21, 22, 23]), (30, [0, 1, 2, 3, 4, 5, 6, 7, 8, 9, 10, 11, 12, 13, 14, 15, 16, 17, 18, 19, 20, 21, 22, 23, 29]), (31, [0, 1, 2, 3, 4, 5, 6, 7, 8, 9, 10, 11, 12, 13, 14, 15, 16, 17, 18, 19, 20, 21, 22, 23, 27, 28, 29, 30]), (32, [0, 1, 2, 3, 4, 5, 6, 7, 8, 9, 10, 11, 12, 13, 14, 15, 16, 17, 18, 19, 20, 21, 22, 23, 27, 28, 29, 30, 31]), (33, [0, 1, 2, 3, 4, 5, 6, 7, 8, 9, 10, 11, 12, 13, 14, 15, 16, 17, 18, 19, 20, 21, 22, 23, 27, 28, 29, 30, 31, 32]), (34, [0, 1, 2, 3, 4, 5, 6, 7, 8, 9, 10, 11, 12, 13, 14, 15, 16, 17, 18, 19, 20, 21, 22, 23, 27, 28, 29, 30, 31, 32, 33]), (35, [0, 1, 2, 3, 4, 5, 6, 7, 8, 9, 10, 11, 12, 13, 14, 15, 16, 17, 18, 19, 20, 21, 22, 23, 24, 25, 26, 27, 28, 29, 30, 31, 32, 33, 34]), (36, [0, 1, 2, 3, 4, 5, 6, 7, 8, 9, 10, 11, 12, 13, 14, 15, 16, 17, 18, 19, 20, 21, 22, 23, 24, 25, 26, 27, 28, 29, 30, 31, 32, 33, 34, 35])]
attribute [local irreducible] WL AC WD WE MStep OkOp

theorem sin_spec (t : Tm) (v : Int) (h : t.size ≤ 1048576) : FC Tryz.prog 180 [aT t, .int .i64 v] (.bool (openT t v)) := by
  refine FC_intro hty Tryz.func180 rfl rfl rfl fun w0 => ?_
  repeat' (first | refine WL_call 0 rfl (tscope_spec t v 65536 h) rfl rfl rfl ?_ | refine WL_p hty rfl rfl ?_ | refine WL_nil ?_ | refine AC_seq ?_ | refine AC_region ?_ | refine AC_skip ?_ | refine AC_ret ?_ | refine ends_bool rfl ?_)
  all_goals rfl

theorem sall1_spec (t : Tm) (v : Int) (h : t.size ≤ 1048576) : FC Tryz.prog 182 [aT t, .eptr [.int .i64 v] 0] (.bool (!openT t v)) := by
  refine FC_intro hty Tryz.func182 rfl rfl rfl fun w0 => ?_
  repeat' (first | refine WL_callB rfl (sin_spec t v h) rfl (fun _ => ?_) (fun _ => ?_) | refine WL_p hty rfl rfl ?_ | refine WL_nil ?_ | refine AC_seq ?_ | refine AC_region ?_ | refine AC_skip ?_ | refine AC_ret ?_ | refine ends_bool rfl ?_)
  all_goals simp [*]

theorem any_not_all {α : Type} (p : α → Bool) (l : List α) : (!(l.any fun t => !p t)) = l.all p := by rw [all_not_any]
theorem sall_spec (l : List Tm) (v : Int) (h : sizes l ≤ 1048576) : FC Tryz.prog 144 [sT l, .int .i64 v] (.bool (l.all fun t => openT t v)) := by
  have hcf := containsFunc_spec 182 [.eptr [.int .i64 v] 0] rfl (fun t => !openT t v) l h (fun t ht => sall1_spec t v (by have := size_le_sizes ht; omega))
  refine FC_intro hty Tryz.func144 rfl rfl rfl fun w0 => ?_
  repeat' (first | refine WL_less (less_freezeBox 3 rfl rfl) ?_ | refine WL_m rfl (m_makeFunc rfl rfl rfl) ?_ | refine WL_callB rfl hcf rfl (fun _ => ?_) (fun _ => ?_) | refine WL_p hty rfl rfl ?_ | refine WL_nil ?_ | refine AC_seq ?_ | refine AC_region ?_ | refine AC_skip ?_ | refine AC_ret ?_ | refine ends_bool rfl ?_)
  all_goals (rename_i hq; rw [← any_not_all, hq])

theorem slevel_spec (n : Int) : FC Tryz.prog 94 [.int .i64 n] (.bool (inR n 0 6)) := by
  refine FC_intro hty Tryz.func94 rfl rfl rfl fun w0 => ?_
  repeat' (first | refine WL_p hty rfl rfl ?_ | refine WL_nil ?_ | refine AC_seq ?_ | refine AC_region ?_ | refine AC_skip ?_ | refine AC_ret ?_ | refine WL_ung rfl rfl ?_ | refine WL_offT rfl rfl rfl ?_ | refine WL_offF rfl rfl rfl ?_ | refine WL_offU rfl rfl rfl ?_ | refine ends_bool rfl ?_ | refine WL_cmp rfl rfl rfl rfl (fun _ => ?_) (fun _ => ?_))
  all_goals (simp_all [inR] <;> (try intro) <;> omega)

theorem smaybe_spec (d : Bool) (t : Tm) (v : Int) (h : t.size ≤ 1048576) : FC Tryz.prog 140 [.bool d, aT t, .int .i64 v] (.bool (maybeB d t v)) := by
  cases d
  · refine FC_intro hty Tryz.func140 rfl rfl rfl fun w0 => ?_
    repeat' (first | refine WL_call 0 rfl (tnone_spec t) rfl rfl rfl ?_ | refine WL_p hty rfl rfl ?_ | refine WL_nil ?_ | refine AC_seq ?_ | refine AC_region ?_ | refine AC_skip ?_ | refine AC_condT rfl ?_ | refine AC_condF rfl ?_ | refine AC_ret ?_ | refine ends_bool rfl ?_ | refine AC_cond rfl (fun _ => ?_) (fun _ => ?_))
    all_goals rfl
  · refine FC_intro hty Tryz.func140 rfl rfl rfl fun w0 => ?_
    repeat' (first | refine WL_call 0 rfl (sin_spec t v h) rfl rfl rfl ?_ | refine WL_p hty rfl rfl ?_ | refine WL_nil ?_ | refine AC_seq ?_ | refine AC_region ?_ | refine AC_skip ?_ | refine AC_condT rfl ?_ | refine AC_condF rfl ?_ | refine AC_ret ?_ | refine ends_bool rfl ?_ | refine AC_cond rfl (fun _ => ?_) (fun _ => ?_))
    all_goals rfl

set_option maxRecDepth 4000 in
set_option maxHeartbeats 4000000 in
theorem sarg_spec (b : Bl) (a : Ar) (i : Int) (hb : b.size ≤ 1048576) (ha : a.size ≤ 1048576) (hi0 : 0 ≤ i) (hi1 : i ≤ 1048576) : FC Tryz.prog 179 [aB b, aA a, .int .i64 i] (.bool (argB b a i)) := by
  have hsl := len_le_sizesS b.sorts
  unfold Bl.size at hb
  unfold Ar.size at ha
  have hd := len_le_sizes a.dom
  have hx := len_le_sizes a.idx
  obtain ⟨rc, tt, dd, so, ix⟩ := a
  simp only at ha hd hx
  have hwd : IntKind.i64.wrap (((rsT dd).length : Int) + (rsT ix).length) = (dd.length : Int) + ix.length := by
    rw [rsT_length, rsT_length]; exact wrap_ok (n := (dd.length : Int) + ix.length) (by omega) (by omega)
  refine FC_intro hty Tryz.func179 rfl rfl rfl fun w0 => ?_
  cases rc
  · repeat' (first | refine WL_callB rfl (sin_spec tt i (by omega)) rfl (fun _ => ?_) (fun _ => ?_) | refine WL_p hty rfl rfl ?_ | refine WL_nil ?_ | refine AC_seq ?_ | refine AC_region ?_ | refine AC_block ?_ | refine AC_skip ?_ | refine AC_condT rfl ?_ | refine AC_condF rfl ?_ | refine AC_exit ?_ | refine AC_ret ?_ | refine WL_ung rfl rfl ?_ | refine WL_offT rfl rfl rfl ?_ | refine WL_offF rfl rfl rfl ?_ | refine WL_offU rfl rfl rfl ?_ | refine WL_m rfl (m_idxN hty rfl rfl rfl (by assumption) rfl) ?_ | refine ends_bool rfl ?_ | refine WL_cmp rfl rfl rfl rfl (fun _ => ?_) (fun _ => ?_) | refine AC_cond rfl (fun _ => ?_) (fun _ => ?_))
    all_goals show _ = (openT tt i && (decide ((dd.length : Int) + ix.length = 0) && decide (so = 0)))
    · rename_i h1 h2 h3
      rw [h1, decide_eq_true (hwd.symm.trans h2), decide_eq_true h3]; rfl
    · rename_i h1 h2 h3
      rw [h1, decide_eq_true (hwd.symm.trans h2), decide_eq_false h3]; rfl
    · rename_i h1 h2
      rw [h1, decide_eq_false (fun q => h2 (hwd.trans q))]; rfl
    · rename_i h1
      rw [h1]; rfl
  have hae : argB b ⟨true, tt, dd, so, ix⟩ i = ((decide (tt = zT) && (decide (dd.length ≤ 12) && (inR so 0 ((b.sorts.length : Int) - 1) && decide (ix.length = idxN b so)))) && (openSeq i dd && ix.all fun t => openT t (i + dd.length))) := rfl
  by_cases hin : inR so 0 ((b.sorts.length : Int) - 1) = true
  · have hin2 := hin
    simp only [inR, Bool.and_eq_true, decide_eq_true_eq] at hin2
    obtain ⟨s, hs, hsm⟩ := get_of_lt (show so.toNat < b.sorts.length by omega)
    have rs := rsS_get hs
    have hix : idxN b so = s.idx.length := by unfold idxN; rw [hs]
    have hn1 : ¬ so < 0 := by omega
    have hn2 : ¬ ((rsS b.sorts).length : Int) ≤ so := by rw [rsS_length]; omega
    repeat' (first | exact absurd (by assumption) hn1 | exact absurd (by assumption) hn2 | refine AC_drawnE (id := 3) tbShapeP179_3 rfl (by kernel_rfl) ?_ | refine WE_callB rfl (tnone_spec _) rfl (fun _ => ?_) (fun _ => ?_) | refine WE_m rfl (m_idxL hty rfl rfl rfl hin2.1 rs rfl) ?_ | refine WE_cons (.inl ⟨rfl, stepE_ok hty rfl rfl⟩) ?_ | refine WE_cons (.inl ⟨rfl, m_idxN hty rfl rfl rfl (by assumption) rfl⟩) ?_ | refine WE_ung rfl rfl ?_ | refine WE_offT rfl rfl rfl ?_ | refine WE_offF rfl rfl rfl ?_ | refine WE_offU rfl rfl rfl ?_ | refine WE_nil ⟨by kernel_rfl, ?_⟩ | refine WL_p hty rfl rfl ?_ | refine WL_nil ?_ | refine AC_seq ?_ | refine AC_region ?_ | refine AC_block ?_ | refine AC_skip ?_ | refine AC_condT rfl ?_ | refine AC_condF rfl ?_ | refine AC_exit ?_ | refine AC_ret ?_ | refine WL_ung rfl rfl ?_ | refine WL_offT rfl rfl rfl ?_ | refine WL_offF rfl rfl rfl ?_ | refine WL_offU rfl rfl rfl ?_ | refine WL_m rfl (m_idxN hty rfl rfl rfl (by assumption) rfl) ?_ | refine ends_bool rfl ?_ | refine WL_cmp rfl rfl rfl rfl (fun _ => ?_) (fun _ => ?_) | refine AC_cond rfl (fun _ => ?_) (fun _ => ?_) | refine WE_cmp rfl rfl rfl rfl (fun _ => ?_) (fun _ => ?_))
    · rename_i h1 h2
      have h2 : 12 < ((rsT dd).length : Int) := h2
      rw [rsT_length] at h2
      rw [hae, show decide (dd.length ≤ 12) = false from decide_eq_false (by omega)]; simp
    · rename_i h1 h2 h3
      have h3 : ((rsT ix).length : Int) ≠ (rsA s.idx).length := by assumption
      rw [rsT_length, rsA_length] at h3
      rw [hae, hix, show decide (ix.length = s.idx.length) = false from decide_eq_false (by omega)]; simp
    · have h1 : decide (tt = zT) = true := by assumption
      have h2 : ¬ 12 < ((rsT dd).length : Int) := by assumption
      have h3 : ¬ ((rsT ix).length : Int) ≠ (rsA s.idx).length := by assumption
      rw [rsT_length] at h2
      rw [rsT_length, rsA_length] at h3
      rw [h1, hin, show decide (dd.length ≤ 12) = true from decide_eq_true (by omega), hix, show decide (ix.length = s.idx.length) = true from decide_eq_true (by omega)] at hae
      simp only [Bool.true_and] at hae
      clear h1 rs
      rw [hae]
      refine AC_for dd.length (fun j => openSeq i (dd.take j) = true) (fun j => ⟨envOf [(2, .int .i64 i), (3, .ptr 3 0), (4, .ptr 4 0), (69, sT dd), (70, .int .i64 ((rsT dd).length : Nat)), (71, .int .i64 (j : Nat))],
        bkOf [(3, .box (cB b)), (4, .box (cA ⟨true, tt, dd, so, ix⟩))]⟩) (less_sub ⟨⟨_, rfl, .inl ⟨.refl _, rfl⟩⟩, ⟨_, rfl, .inl ⟨.refl _, rfl⟩⟩, ⟨_, rfl, .inl ⟨.refl _, rfl⟩⟩, ⟨_, rfl, .inl ⟨.refl _, rfl⟩⟩, ⟨_, rfl, .inl ⟨.refl _, rfl⟩⟩, ⟨_, rfl, .inl ⟨.refl _, rfl⟩⟩, trivial⟩ ⟨⟨⟨_, rfl, .refl _⟩, rfl⟩, ⟨⟨_, rfl, .refl _⟩, rfl⟩, trivial⟩) rfl ?_
      intro j hj hI
      repeat' (first | refine WL_p hty rfl rfl ?_ | refine WL_nil ?_ | refine AC_seq ?_ | refine AC_region ?_ | refine AC_block ?_ | refine AC_skip ?_ | refine AC_condT rfl ?_ | refine AC_condF rfl ?_ | refine AC_exit ?_ | refine AC_ret ?_ | refine WL_ung rfl rfl ?_ | refine WL_offT rfl rfl rfl ?_ | refine WL_offF rfl rfl rfl ?_ | refine WL_offU rfl rfl rfl ?_ | refine WL_m rfl (m_idxN hty rfl rfl rfl (by assumption) rfl) ?_ | refine ends_bool rfl ?_)
      refine WL_cmp rfl rfl rfl rfl (fun hc => ?_) (fun hc => ?_)
      · have hc : (j : Int) < ((rsT dd).length : Int) := hc
        have hlt : j < dd.length := by rw [rsT_length] at hc; omega
        obtain ⟨k, hk, hmem⟩ := get_of_lt hlt
        have hks := size_le_sizes hmem
        have rk := rsT_get hk
        have hwr : IntKind.i64.wrap (i + (j : Nat)) = i + (j : Nat) := wrap_ok (n := i + (j : Nat)) (by omega) (by omega)
        have hop := sin_spec k (IntKind.i64.wrap (i + (j : Nat))) (by omega)
        repeat' (first | refine WL_callB rfl hop rfl (fun _ => ?_) (fun _ => ?_) | refine WL_p hty rfl rfl ?_ | refine WL_nil ?_ | refine AC_seq ?_ | refine AC_region ?_ | refine AC_block ?_ | refine AC_skip ?_ | refine AC_condT rfl ?_ | refine AC_condF rfl ?_ | refine AC_exit ?_ | refine AC_ret ?_ | refine WL_ung rfl rfl ?_ | refine WL_offT rfl rfl rfl ?_ | refine WL_offF rfl rfl rfl ?_ | refine WL_offU rfl rfl rfl ?_ | refine WL_m rfl (m_idxN hty rfl rfl rfl (by assumption) rfl) ?_ | refine ends_bool rfl ?_ | refine WL_cmp rfl rfl rfl rfl (fun _ => ?_) (fun _ => ?_) | refine AC_cond rfl (fun _ => ?_) (fun _ => ?_))
        all_goals (rename_i hb; rw [hwr] at hb)
        · refine ⟨hlt, by rw [openSeq_take_succ hk, hI, hb]; rfl, (less_sub ⟨⟨_, rfl, .inl ⟨.refl _, rfl⟩⟩, ⟨_, rfl, .inl ⟨.refl _, rfl⟩⟩, ⟨_, rfl, .inl ⟨.refl _, rfl⟩⟩, ⟨_, rfl, .inl ⟨.refl _, rfl⟩⟩, ⟨_, rfl, .inl ⟨.refl _, rfl⟩⟩, ⟨_, rfl, see_eq ?_ rfl⟩, trivial⟩ ⟨⟨⟨_, rfl, .refl _⟩, rfl⟩, ⟨⟨_, rfl, .refl _⟩, rfl⟩, trivial⟩)⟩
          exact congrArg (AV.int .i64) ((wrap_ok (by omega) (by omega)).trans (by omega))
        · rw [openSeq_split hk, hb]; simp
      · have hc : ¬ (j : Int) < ((rsT dd).length : Int) := hc
        obtain rfl : j = dd.length := by rw [rsT_length] at hc; omega
        rw [List.take_length] at hI
        rw [hI, Bool.true_and]
        have hwr : IntKind.i64.wrap (i + ((rsT dd).length : Nat)) = i + (dd.length : Nat) := by rw [rsT_length]; exact wrap_ok (n := i + (dd.length : Nat)) (by omega) (by omega)
        have hal := sall_spec ix (IntKind.i64.wrap (i + ((rsT dd).length : Nat))) (by omega)
        repeat' (first | refine WL_call 0 rfl hal rfl rfl rfl ?_ | refine WL_p hty rfl rfl ?_ | refine WL_nil ?_ | refine AC_seq ?_ | refine AC_region ?_ | refine AC_block ?_ | refine AC_skip ?_ | refine AC_condT rfl ?_ | refine AC_condF rfl ?_ | refine AC_exit ?_ | refine AC_ret ?_ | refine WL_ung rfl rfl ?_ | refine WL_offT rfl rfl rfl ?_ | refine WL_offF rfl rfl rfl ?_ | refine WL_offU rfl rfl rfl ?_ | refine WL_m rfl (m_idxN hty rfl rfl rfl (by assumption) rfl) ?_ | refine ends_bool rfl ?_ | refine WL_cmp rfl rfl rfl rfl (fun _ => ?_) (fun _ => ?_) | refine AC_cond rfl (fun _ => ?_) (fun _ => ?_))
        rw [hwr]
    · rename_i h1
      have h1 : decide (tt = zT) = false := h1
      rw [hae, h1]; rfl
  · repeat' (first | refine AC_drawnE (id := 3) tbShapeP179_3 rfl (by kernel_rfl) ?_ | refine WE_callB rfl (tnone_spec _) rfl (fun _ => ?_) (fun _ => ?_) | refine WE_cons (.inl ⟨rfl, stepE_ok hty rfl rfl⟩) ?_ | refine WE_cons (.inl ⟨rfl, m_idxN hty rfl rfl rfl (by assumption) rfl⟩) ?_ | refine WE_ung rfl rfl ?_ | refine WE_offT rfl rfl rfl ?_ | refine WE_offF rfl rfl rfl ?_ | refine WE_offU rfl rfl rfl ?_ | refine WE_nil ⟨by kernel_rfl, ?_⟩ | refine WL_p hty rfl rfl ?_ | refine WL_nil ?_ | refine AC_seq ?_ | refine AC_region ?_ | refine AC_block ?_ | refine AC_skip ?_ | refine AC_condT rfl ?_ | refine AC_condF rfl ?_ | refine AC_exit ?_ | refine AC_ret ?_ | refine WL_ung rfl rfl ?_ | refine WL_offT rfl rfl rfl ?_ | refine WL_offF rfl rfl rfl ?_ | refine WL_offU rfl rfl rfl ?_ | refine WL_m rfl (m_idxN hty rfl rfl rfl (by assumption) rfl) ?_ | refine ends_bool rfl ?_ | refine WL_cmp rfl rfl rfl rfl (fun _ => ?_) (fun _ => ?_) | refine AC_cond rfl (fun _ => ?_) (fun _ => ?_) | refine WE_cmp rfl rfl rfl rfl (fun _ => ?_) (fun _ => ?_))
    all_goals first
      | (rw [hae, Bool.eq_false_iff.2 hin]; simp; done)
      | (dsimp only at *; exfalso; apply hin; simp only [inR, Bool.and_eq_true, decide_eq_true_eq]; rw [rsS_length] at *; omega)

theorem srow_spec (b : Bl) (l : List Ar) (hb : b.size ≤ 1048576) (hl : sizesA l ≤ 1048576) : FC Tryz.prog 139 [aB b, sA l] (.bool (rowB b l)) := by
  have hlen := len_le_sizesA l
  refine FC_intro hty Tryz.func139 rfl rfl rfl fun w0 => ?_
  repeat' (first | refine WL_p hty rfl rfl ?_ | refine WL_nil ?_ | refine AC_seq ?_ | refine AC_region ?_ | refine AC_block ?_ | refine AC_skip ?_ | refine AC_condT rfl ?_ | refine AC_condF rfl ?_ | refine AC_exit ?_ | refine AC_ret ?_ | refine WL_m rfl (m_idxN hty rfl rfl rfl (by assumption) rfl) ?_ | refine ends_bool rfl ?_ | refine WL_cmp rfl rfl rfl rfl (fun _ => ?_) (fun _ => ?_) | refine AC_cond rfl (fun _ => ?_) (fun _ => ?_))
  · rename_i h
    rw [rsA_length] at h
    rw [rowB, decide_eq_false (by omega)]; rfl
  rename_i h
  rw [rsA_length] at h
  have hr : rowB b l = argSeq b 0 l := by rw [rowB, decide_eq_true (by omega)]; rfl
  refine AC_for l.length (fun j => argSeq b 0 (l.take j) = true) (fun j => ⟨envOf [(2, .ptr 2 0), (10, sA l), (11, .int .i64 ((rsA l).length : Nat)), (12, .int .i64 (j : Nat))], bkOf [(2, .box (cB b))]⟩) (less_sub ⟨⟨_, rfl, .inl ⟨.refl _, rfl⟩⟩, ⟨_, rfl, .inl ⟨.refl _, rfl⟩⟩, ⟨_, rfl, .inl ⟨.refl _, rfl⟩⟩, ⟨_, rfl, .inl ⟨.refl _, rfl⟩⟩, trivial⟩ ⟨⟨⟨_, rfl, .refl _⟩, rfl⟩, trivial⟩) rfl ?_
  intro j hj hI
  repeat' (first | refine WL_p hty rfl rfl ?_ | refine WL_nil ?_ | refine AC_seq ?_ | refine AC_region ?_ | refine AC_block ?_ | refine AC_skip ?_ | refine AC_condT rfl ?_ | refine AC_condF rfl ?_ | refine AC_exit ?_ | refine AC_ret ?_ | refine WL_m rfl (m_idxN hty rfl rfl rfl (by assumption) rfl) ?_ | refine ends_bool rfl ?_)
  refine WL_cmp rfl rfl rfl rfl (fun hc => ?_) (fun hc => ?_)
  · have hlt : j < l.length := by rw [rsA_length] at hc; omega
    obtain ⟨k, hk, hmem⟩ := get_of_lt hlt
    have hks := size_le_sizesA hmem
    have rk := rsA_get hk
    repeat' (first | refine WL_callB rfl (sarg_spec b k (j : Nat) hb (by omega) (by omega) (by omega)) rfl (fun _ => ?_) (fun _ => ?_) | refine WL_p hty rfl rfl ?_ | refine WL_nil ?_ | refine AC_seq ?_ | refine AC_region ?_ | refine AC_block ?_ | refine AC_skip ?_ | refine AC_condT rfl ?_ | refine AC_condF rfl ?_ | refine AC_exit ?_ | refine AC_ret ?_ | refine WL_m rfl (m_idxN hty rfl rfl rfl (by assumption) rfl) ?_ | refine ends_bool rfl ?_ | refine WL_cmp rfl rfl rfl rfl (fun _ => ?_) (fun _ => ?_) | refine AC_cond rfl (fun _ => ?_) (fun _ => ?_))
    · refine ⟨hlt, by rw [argSeq_take_succ hk, hI, Int.zero_add]; simp [*], (less_sub ⟨⟨_, rfl, .inl ⟨.refl _, rfl⟩⟩, ⟨_, rfl, .inl ⟨.refl _, rfl⟩⟩, ⟨_, rfl, .inl ⟨.refl _, rfl⟩⟩, ⟨_, rfl, see_eq ?_ rfl⟩, trivial⟩ ⟨⟨⟨_, rfl, .refl _⟩, rfl⟩, trivial⟩)⟩
      exact congrArg (AV.int .i64) ((wrap_ok (by omega) (by omega)).trans (by omega))
    · rw [hr, argSeq_split hk, Int.zero_add]; simp [*]
  · obtain rfl : j = l.length := by rw [rsA_length] at hc; omega
    rw [List.take_length] at hI
    repeat' (first | refine WL_p hty rfl rfl ?_ | refine WL_nil ?_ | refine AC_seq ?_ | refine AC_region ?_ | refine AC_block ?_ | refine AC_skip ?_ | refine AC_condT rfl ?_ | refine AC_condF rfl ?_ | refine AC_exit ?_ | refine AC_ret ?_ | refine WL_m rfl (m_idxN hty rfl rfl rfl (by assumption) rfl) ?_ | refine ends_bool rfl ?_ | refine WL_cmp rfl rfl rfl rfl (fun _ => ?_) (fun _ => ?_) | refine AC_cond rfl (fun _ => ?_) (fun _ => ?_))
    rw [hr, hI]

end Go.Proofs.YtlonpgdnmngnmaaGreat

/-
  The program's word on a block's shape: sorts, constructors, blocks.
-/
namespace Go.Proofs.YtlonpgdnmngnmaaGreat
set_option linter.unusedSimpArgs false
set_option linter.unusedVariables false
open Go.Aw Go.RowKit
attribute [local irreducible] WL AC WD WE MStep OkOp

theorem ssort1_spec (a : Ar) (k : Int) (s : Sr) : FC Tryz.prog 142 [aA a, .eptr [.int .i64 k] 0, .eptr (cS s) 0] (.bool (sortBad k s.dec a)) := by
  obtain ⟨rc, tt, dd, so, ix⟩ := a
  obtain ⟨sx, sl, sd, st⟩ := s
  cases rc <;> cases sd
  all_goals
    refine FC_intro hty Tryz.func142 rfl rfl rfl fun w0 => ?_
    repeat' (first | refine WL_p hty rfl rfl ?_ | refine WL_nil ?_ | refine AC_seq ?_ | refine AC_region ?_ | refine AC_skip ?_ | refine AC_ret ?_ | refine WL_ung rfl rfl ?_ | refine WL_offT rfl rfl rfl ?_ | refine WL_offF rfl rfl rfl ?_ | refine WL_offU rfl rfl rfl ?_ | refine ends_bool rfl ?_ | refine WL_cmp rfl rfl rfl rfl (fun _ => ?_) (fun _ => ?_))
    all_goals first
      | rfl
      | ((try dsimp only at *); (try simp only [rsT_length] at *); simp only [sortBad]; simp only [Bool.true_and, Bool.or_false, Bool.or_true, Bool.false_eq_true, eq_comm (a := true), eq_comm (a := false), Bool.or_eq_true, Bool.or_eq_false_iff, decide_eq_true_eq, decide_eq_false_iff_not] <;> omega)

theorem ssort_spec (b : Bl) (k : Nat) (s : Sr) (hs : b.sorts[k]? = some s) (hb : b.size ≤ 1048576) : FC Tryz.prog 95 [aB b, .int .i64 (k : Nat)] (.bool (sortB b k s)) := by
  have hb' := hb
  unfold Bl.size at hb'
  have hss := size_le_sizesS (List.mem_of_getElem? hs)
  unfold Sr.size at hss
  have rs := rsS_get hs
  have hlx := len_le_sizesA s.idx
  have hcf := containsFuncA_spec 142 [.eptr [.int .i64 (k : Nat)] 0, .eptr (cS s) 0] rfl (sortBad (k : Nat) s.dec) s.idx (by omega) (fun a _ => ssort1_spec a (k : Nat) s)
  have hrow := srow_spec b s.idx hb (by omega)
  have hlv := slevel_spec s.level
  have hmb := smaybe_spec s.dec s.decT ((rsA s.idx).length : Nat) (by omega)
  have hlen : ((rsA s.idx).length : Int) = (s.idx.length : Int) := by rw [rsA_length]
  refine FC_intro hty Tryz.func95 rfl rfl rfl fun w0 => ?_
  repeat' (first | refine WL_m rfl (m_idxN (i := k) hty rfl rfl rfl rs rfl) ?_ | refine WL_callB rfl hrow rfl (fun _ => ?_) (fun _ => ?_) | refine WL_callB rfl hlv rfl (fun _ => ?_) (fun _ => ?_) | refine WL_callB rfl hmb rfl (fun _ => ?_) (fun _ => ?_) | (refine WL_less (less_freezeBox 3 rfl rfl) ?_; refine WL_less (less_freezeBox 5 rfl rfl) ?_; refine WL_m rfl (m_makeFunc rfl rfl rfl) ?_) | refine WL_callB rfl hcf rfl (fun _ => ?_) (fun _ => ?_) | refine WL_p hty rfl rfl ?_ | refine WL_nil ?_ | refine AC_seq ?_ | refine AC_region ?_ | refine AC_skip ?_ | refine AC_condT rfl ?_ | refine AC_condF rfl ?_ | refine AC_ret ?_ | refine WL_ung rfl rfl ?_ | refine WL_offT rfl rfl rfl ?_ | refine WL_offF rfl rfl rfl ?_ | refine WL_offU rfl rfl rfl ?_ | refine WL_m rfl (m_idxN hty rfl rfl rfl (by assumption) rfl) ?_ | refine ends_bool rfl ?_ | refine AC_cond rfl (fun _ => ?_) (fun _ => ?_))
  all_goals (rw [hlen] at *; simp only [sortB]; simp [*])

theorem scon_spec (b : Bl) (c : Cn) (hb : b.size ≤ 1048576) (ha : c.size ≤ 1048576) : FC Tryz.prog 98 [aB b, aC c] (.bool (conB b c)) := by
  have hb' := hb
  unfold Bl.size at hb'
  unfold Cn.size at ha
  have hsl := len_le_sizesS b.sorts
  have hla := len_le_sizesA c.args
  have hrow := srow_spec b c.args hb (by omega)
  have hal := sall_spec c.idx ((rsA c.args).length : Nat) (by omega)
  by_cases hin : inR c.sort 0 ((b.sorts.length : Int) - 1) = true
  · have hin2 := hin
    simp only [inR, Bool.and_eq_true, decide_eq_true_eq] at hin2
    obtain ⟨s, hs, hsm⟩ := get_of_lt (show c.sort.toNat < b.sorts.length by omega)
    have rs := rsS_get hs
    have hix : idxN b c.sort = s.idx.length := by unfold idxN; rw [hs]
    have hde : decS b c.sort = s.dec := by unfold decS; rw [hs]
    have hmb := smaybe_spec s.dec c.dec ((rsA c.args).length : Nat) (by omega)
    have hn1 : ¬ c.sort < 0 := by omega
    have hn2 : ¬ ((rsS b.sorts).length : Int) ≤ c.sort := by rw [rsS_length]; omega
    have hcb : conB b c = (rowB b c.args && (decide (c.idx.length = s.idx.length) && ((c.idx.all fun t => openT t c.args.length) && maybeB s.dec c.dec c.args.length))) := by
      simp only [conB, hin, hix, hde, rowB, maybeB, Bool.true_and]
      cases decide (c.args.length ≤ 12) <;> cases decide (c.idx.length = s.idx.length) <;> simp
    refine FC_intro hty Tryz.func98 rfl rfl rfl fun w0 => ?_
    repeat' (first | exact absurd (by assumption) hn1 | exact absurd (by assumption) hn2 | refine WL_m rfl (m_idxL hty rfl rfl rfl hin2.1 rs rfl) ?_ | refine WL_callB rfl hrow rfl (fun _ => ?_) (fun _ => ?_) | refine WL_callB rfl hal rfl (fun _ => ?_) (fun _ => ?_) | refine WL_callB rfl hmb rfl (fun _ => ?_) (fun _ => ?_) | refine WL_p hty rfl rfl ?_ | refine WL_nil ?_ | refine AC_seq ?_ | refine AC_region ?_ | refine AC_skip ?_ | refine AC_condT rfl ?_ | refine AC_condF rfl ?_ | refine AC_ret ?_ | refine WL_ung rfl rfl ?_ | refine WL_offT rfl rfl rfl ?_ | refine WL_offF rfl rfl rfl ?_ | refine WL_offU rfl rfl rfl ?_ | refine WL_m rfl (m_idxN hty rfl rfl rfl (by assumption) rfl) ?_ | refine ends_bool rfl ?_ | refine WL_cmp rfl rfl rfl rfl (fun _ => ?_) (fun _ => ?_) | refine AC_cond rfl (fun _ => ?_) (fun _ => ?_))
    all_goals simp only [rsA_length, rsT_length] at *
    all_goals first
      | (have e : decide (c.idx.length = s.idx.length) = true := decide_eq_true (by omega)
         rw [hcb, e]
         simp only [*, Bool.true_and, Bool.and_true, Bool.and_false, Bool.false_and]
         done)
      | (have e : decide (c.idx.length = s.idx.length) = false := decide_eq_false (by omega)
         rw [hcb, e]
         simp only [Bool.false_and, Bool.and_false]
         done)
      | (rw [hcb]
         simp only [*, Bool.false_and]
         done)
  · have hcb : conB b c = false := by simp only [conB, Bool.eq_false_iff.2 hin, Bool.false_and]
    rw [hcb]
    refine FC_intro hty Tryz.func98 rfl rfl rfl fun w0 => ?_
    repeat' (first | (refine absurd ?_ hin; simp only [inR, Bool.and_eq_true, decide_eq_true_eq]; simp only [rsS_length] at *; omega) | refine WL_p hty rfl rfl ?_ | refine WL_nil ?_ | refine AC_seq ?_ | refine AC_region ?_ | refine AC_skip ?_ | refine AC_condT rfl ?_ | refine AC_condF rfl ?_ | refine AC_ret ?_ | refine WL_ung rfl rfl ?_ | refine WL_offT rfl rfl rfl ?_ | refine WL_offF rfl rfl rfl ?_ | refine WL_offU rfl rfl rfl ?_ | refine WL_m rfl (m_idxN hty rfl rfl rfl (by assumption) rfl) ?_ | refine ends_bool rfl ?_ | refine WL_cmp rfl rfl rfl rfl (fun _ => ?_) (fun _ => ?_) | refine AC_cond rfl (fun _ => ?_) (fun _ => ?_))
    all_goals rfl

theorem scheck1_spec (b : Bl) (c : Cn) (hb : b.size ≤ 1048576) (ha : c.size ≤ 1048576) : FC Tryz.prog 97 [aC c, .eptr (cB b) 0] (.bool (!conB b c)) := by
  refine FC_intro hty Tryz.func97 rfl rfl rfl fun w0 => ?_
  repeat' (first | refine WL_callB rfl (scon_spec b c hb ha) rfl (fun _ => ?_) (fun _ => ?_) | refine WL_p hty rfl rfl ?_ | refine WL_nil ?_ | refine AC_seq ?_ | refine AC_region ?_ | refine AC_skip ?_ | refine AC_ret ?_ | refine ends_bool rfl ?_)
  all_goals simp [*]

theorem scheck_spec (b : Bl) (hb : b.size ≤ 1048576) : FC Tryz.prog 48 [aB b] (.int .i64 (if shapeB b = true then 0 else 12)) := by
  have hb' := hb
  unfold Bl.size at hb'
  have hsl := len_le_sizesS b.sorts
  have hcl := len_le_sizesC b.cons
  have hlv := slevel_spec b.elim
  have hcf := containsFuncC_spec 97 [.eptr (cB b) 0] rfl (fun c => !conB b c) b.cons (by omega) (fun c hc => scheck1_spec b c hb (by have := size_le_sizesC hc; omega))
  refine FC_intro hty Tryz.func48 rfl rfl rfl fun w0 => ?_
  repeat' (first | refine WL_callB rfl hlv rfl (fun _ => ?_) (fun _ => ?_) | refine WL_p hty rfl rfl ?_ | refine WL_nil ?_ | refine AC_seq ?_ | refine AC_region ?_ | refine AC_block ?_ | refine AC_skip ?_ | refine AC_condT rfl ?_ | refine AC_condF rfl ?_ | refine AC_exit ?_ | refine AC_ret ?_ | refine WL_ung rfl rfl ?_ | refine WL_offT rfl rfl rfl ?_ | refine WL_offF rfl rfl rfl ?_ | refine WL_offU rfl rfl rfl ?_ | refine ends_bool rfl ?_ | refine WL_cmp rfl rfl rfl rfl (fun _ => ?_) (fun _ => ?_) | refine AC_cond rfl (fun _ => ?_) (fun _ => ?_))
  · rename_i h
    rw [rsS_length] at h
    refine ends_int rfl ?_
    rw [if_neg]
    simp only [shapeB, inR, Bool.and_eq_true, decide_eq_true_eq]; omega
  · rename_i h1 h
    rw [rsS_length] at h
    refine ends_int rfl ?_
    rw [if_neg]
    simp only [shapeB, inR, Bool.and_eq_true, decide_eq_true_eq]; omega
  · rename_i h1 h2 h
    rw [rsC_length] at h
    refine ends_int rfl ?_
    rw [if_neg]
    simp only [shapeB, inR, Bool.and_eq_true, decide_eq_true_eq]; omega
  · rename_i h1 h2 h3 h4
    rw [rsS_length] at h1 h2
    rw [rsC_length] at h3
    have hsh : shapeB b = (sortsB b 0 b.sorts && b.cons.all (conB b)) := by
      have e1 : inR (b.sorts.length : Nat) 1 4 = true := by simp only [inR, Bool.and_eq_true, decide_eq_true_eq]; omega
      have e2 : decide (b.cons.length ≤ 8) = true := decide_eq_true (by omega)
      simp only [shapeB, e1, e2, h4, Bool.true_and]
    refine AC_for b.sorts.length (fun j => ∀ (i : Nat) (s : Sr), i < j → b.sorts[i]? = some s → sortB b i s = true) (fun j => ⟨envOf [(1, .ptr 1 0), (28, .int .i64 ((rsS b.sorts).length : Nat)), (29, .int .i64 (j : Nat))], bkOf [(1, .box (cB b))]⟩)
      (less_sub ⟨⟨_, rfl, .inl ⟨.refl _, rfl⟩⟩, ⟨_, rfl, .inl ⟨.refl _, rfl⟩⟩, ⟨_, rfl, .inl ⟨.refl _, rfl⟩⟩, trivial⟩ ⟨⟨⟨_, rfl, .refl _⟩, rfl⟩, trivial⟩) (fun i s hi => absurd hi (Nat.not_lt_zero _)) ?_
    intro j hj hI
    repeat' (first | refine WL_p hty rfl rfl ?_ | refine WL_nil ?_ | refine AC_seq ?_ | refine AC_region ?_ | refine AC_block ?_ | refine AC_skip ?_ | refine AC_condT rfl ?_ | refine AC_condF rfl ?_ | refine AC_exit ?_ | refine AC_ret ?_ | refine WL_ung rfl rfl ?_ | refine WL_offT rfl rfl rfl ?_ | refine WL_offF rfl rfl rfl ?_ | refine WL_offU rfl rfl rfl ?_ | refine ends_bool rfl ?_)
    refine WL_cmp rfl rfl rfl rfl (fun hc => ?_) (fun hc => ?_)
    · have hlt : j < b.sorts.length := by rw [rsS_length] at hc; omega
      obtain ⟨s, hs, hmem⟩ := get_of_lt hlt
      repeat' (first | refine WL_callB rfl (ssort_spec b j s hs hb) rfl (fun _ => ?_) (fun _ => ?_) | refine WL_p hty rfl rfl ?_ | refine WL_nil ?_ | refine AC_seq ?_ | refine AC_region ?_ | refine AC_block ?_ | refine AC_skip ?_ | refine AC_condT rfl ?_ | refine AC_condF rfl ?_ | refine AC_exit ?_ | refine AC_ret ?_ | refine WL_ung rfl rfl ?_ | refine WL_offT rfl rfl rfl ?_ | refine WL_offF rfl rfl rfl ?_ | refine WL_offU rfl rfl rfl ?_ | refine ends_bool rfl ?_ | refine WL_cmp rfl rfl rfl rfl (fun _ => ?_) (fun _ => ?_) | refine AC_cond rfl (fun _ => ?_) (fun _ => ?_))
      · rename_i hq
        refine ⟨hlt, fun i u hi hu => ?_, (less_sub ⟨⟨_, rfl, .inl ⟨.refl _, rfl⟩⟩, ⟨_, rfl, .inl ⟨.refl _, rfl⟩⟩, ⟨_, rfl, see_eq ?_ rfl⟩, trivial⟩ ⟨⟨⟨_, rfl, .refl _⟩, rfl⟩, trivial⟩)⟩
        · rcases Nat.lt_or_ge i j with q | q
          · exact hI i u q hu
          · obtain rfl : i = j := by omega
            rw [hs] at hu
            obtain rfl := Option.some.inj hu
            exact hq
        · exact congrArg (AV.int .i64) ((wrap_ok (by omega) (by omega)).trans (by omega))
      · rename_i hq
        refine ends_int rfl ?_
        rw [if_neg]
        intro hsb
        rw [hsh, Bool.and_eq_true] at hsb
        have := sortsB_iff.1 hsb.1 j s hs
        rw [Nat.zero_add, hq] at this
        cases this
    · obtain rfl : j = b.sorts.length := by rw [rsS_length] at hc; omega
      have hss : sortsB b 0 b.sorts = true := sortsB_iff.2 fun i s hs => by rw [Nat.zero_add]; exact hI i s (List.getElem?_eq_some_iff.1 hs).1 hs
      rw [hsh, hss, Bool.true_and]
      repeat' (first | (refine WL_less (less_freezeBox 1 rfl rfl) ?_; refine WL_m rfl (m_makeFunc rfl rfl rfl) ?_) | refine WL_callB rfl hcf rfl (fun _ => ?_) (fun _ => ?_) | refine WL_p hty rfl rfl ?_ | refine WL_nil ?_ | refine AC_seq ?_ | refine AC_region ?_ | refine AC_block ?_ | refine AC_skip ?_ | refine AC_condT rfl ?_ | refine AC_condF rfl ?_ | refine AC_exit ?_ | refine AC_ret ?_ | refine WL_ung rfl rfl ?_ | refine WL_offT rfl rfl rfl ?_ | refine WL_offF rfl rfl rfl ?_ | refine WL_offU rfl rfl rfl ?_ | refine ends_bool rfl ?_ | refine WL_cmp rfl rfl rfl rfl (fun _ => ?_) (fun _ => ?_) | refine AC_cond rfl (fun _ => ?_) (fun _ => ?_))
      · rename_i hq
        refine ends_int rfl ?_
        rw [if_neg]
        rw [all_not_any, hq]; decide
      · rename_i hq
        refine ends_int rfl ?_
        rw [if_pos]
        rw [all_not_any, hq]; rfl
  · rename_i h1 h2 h3 h
    refine ends_int rfl ?_
    rw [if_neg]
    simp only [shapeB, h, Bool.false_and, Bool.and_false]; decide

end Go.Proofs.YtlonpgdnmngnmaaGreat
