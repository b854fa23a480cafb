/-
  CodeAgain's own body: what codes are expanded to is compiled to these codes.
-/
import Derived.Test.YtgjoeoojplbhpaaSpell
namespace Go.Proofs.Ytgjoeoojplbhpaa
set_option linter.unusedSimpArgs false
set_option linter.unusedVariables false
open Go.Aw Go.RowKit
attribute [local irreducible] WL AC WD MStep OkOp

/-! the plain law -/
theorem sizesD_append (l r : List Cd) : sizesD (l ++ r) = sizesD l + sizesD r := by
  induction l with
  | nil => simp [sizesD]
  | cons a l ih => simp [sizesD, ih]; omega
theorem sizesD_take (l : List Cd) (k : Nat) : sizesD (l.take k) ≤ sizesD l := by
  have := sizesD_append (l.take k) (l.drop k)
  rw [List.take_append_drop] at this
  omega
theorem rsD_append (l r : List Cd) : rsD (l ++ r) = rsD l ++ rsD r := by
  induction l with
  | nil => rfl
  | cons a l ih => simp [rsD, ih]
theorem rsD_take (l : List Cd) (k : Nat) : (rsD l).take k = rsD (l.take k) := by
  induction l generalizing k with
  | nil => simp [rsD]
  | cons a l ih => cases k <;> simp [rsD, ih]
theorem rsD_drop (l : List Cd) (k : Nat) : (rsD l).drop k = rsD (l.drop k) := by
  induction l generalizing k with
  | nil => simp [rsD]
  | cons a l ih => cases k <;> simp [rsD, ih]

theorem exp_none {sort : Int} {l : List Cd} (h : okRow l = false ∨ l = []) : expand sort l = (zC, 12) := by
  unfold expand
  rcases h with h | h
  · rw [h]
  · subst h; rfl

theorem codeOf_argOf {x : Cd} (h : formedD x = true) (hk : x.kind ≠ 1) : codeOf (argOf x) = x := by
  obtain ⟨k, t, dm, so, ix, de⟩ := x
  by_cases h2 : k = 2
  · subst h2
    simp only [formedD, if_true, Bool.and_eq_true, decide_eq_true_eq] at h
    obtain ⟨⟨h3, h4⟩, h5⟩ := h
    have e1 : dm = [] := List.length_eq_zero_iff.1 (by omega)
    have e2 : ix = [] := List.length_eq_zero_iff.1 (by omega)
    subst e1; subst e2; subst h4; subst h5
    simp [argOf, codeOf]
  · by_cases h3 : k = 3
    · subst h3
      simp [formedD] at h
      obtain ⟨h4, h5⟩ := h
      subst h4; subst h5
      simp [argOf, codeOf]
    · simp only at hk
      simp [formedD, h2, h3, hk] at h

theorem again_compile {sort : Int} {l : List Cd} (h : okRow l = true) (hne : l ≠ []) : ∃ X, expand sort l = (X, 0) ∧ X.sort = sort ∧ compile X = l := by
  have hok := okRow_iff.1 h
  have hpos : 0 < l.length := List.length_pos_iff.2 hne
  obtain ⟨x, hx, _⟩ := get_of_lt (show l.length - 1 < l.length by omega)
  have hla : l.getLast? = some x := by rw [List.getLast?_eq_getElem?]; exact hx
  refine ⟨⟨sort, l.dropLast.map argOf, x.idx, x.dec⟩, by unfold expand; rw [h, hla], rfl, ?_⟩
  unfold compile
  have h1 := hok _ _ hx
  have hk : x.kind = 1 := h1.2.2 (by omega)
  have hxe : (⟨1, zT, [], 0, x.idx, x.dec⟩ : Cd) = x := by
    obtain ⟨k, t, dm, so, ix, de⟩ := x
    simp only at hk
    subst hk
    have h2 := h1.1
    simp [formedD] at h2
    obtain ⟨⟨h3, h4⟩, h5⟩ := h2
    subst h3; subst h4; subst h5
    rfl
  have hmap : (l.dropLast.map argOf).map codeOf = l.dropLast := by
    rw [List.map_map]
    have : ∀ y ∈ l.dropLast, (codeOf ∘ argOf) y = y := by
      intro y hy
      obtain ⟨i, hi⟩ := List.getElem?_of_mem hy
      have hil : i < l.dropLast.length := (List.getElem?_eq_some_iff.1 hi).1
      rw [List.length_dropLast] at hil
      rw [List.dropLast_eq_take, List.getElem?_take, if_pos hil] at hi
      have h2 := hok i y hi
      exact codeOf_argOf h2.1 (fun q => by have := h2.2.1 q; omega)
    rw [List.map_congr_left this, List.map_id']
  rw [hmap, hxe]
  obtain ⟨ys, rfl⟩ := List.getLast?_eq_some_iff.1 hla
  rw [List.dropLast_concat]

theorem argOf_sizes (l : List Cd) : sizesA (l.map argOf) ≤ sizesD l := by
  induction l with
  | nil => exact Nat.le_refl _
  | cons a l ih =>
    have : (argOf a).size ≤ a.size := by
      have := a.typ.size_pos
      have := a.dec.size_pos
      unfold argOf
      split <;> simp [Ar.size, Cd.size, sizes, zT, Tm.size] <;> omega
    simp only [List.map_cons, sizesA, sizesD]
    omega
theorem exp_size {sort : Int} {l : List Cd} : (expand sort l).1.size ≤ sizesD l + 1 := by
  unfold expand
  split
  · rename_i x _ hla
    obtain ⟨ys, rfl⟩ := List.getLast?_eq_some_iff.1 hla
    have h1 := argOf_sizes ys
    rw [List.dropLast_concat, sizesD_append]
    simp only [Cn.size, sizesD, Cd.size]
    omega
  · simp [zC, zT, Cn.size, sizesA, sizes, Tm.size]

/-- What is not heavy is small. -/
theorem lightT {l : List Tm} (h : heavyT l = false) : sizes l ≤ 9000 := by
  simp only [heavyT, Bool.or_eq_false_iff, decide_eq_false_iff_not] at h
  omega
theorem light_one {l : List Cd} (h : heavyB ⟨[], [spellC l], 0⟩ = false) {x : Cd} (hx : x ∈ l) : x.size ≤ 27000 := by
  simp only [heavyB, List.any_cons, List.any_nil, Bool.or_false, Bool.or_eq_false_iff, heavyC, heavyA] at h
  have h2 := h.2.1.1.2
  rw [List.any_eq_false] at h2
  have h3 := h2 (spA x) (List.mem_map.2 ⟨x, hx, rfl⟩)
  simp only [Bool.or_eq_true, not_or, Bool.not_eq_true] at h3
  obtain ⟨⟨h4, h5⟩, h6⟩ := h3
  have h4 := lightT h4
  have h5 := lightT h5
  have h6 := lightT h6
  simp only [spA, sizes_append, sizes] at h4 h5 h6
  simp only [Cd.size]
  omega
theorem sizesD_le {l : List Cd} {m : Nat} (h : ∀ x ∈ l, x.size ≤ m) : sizesD l ≤ l.length * m := by
  induction l with
  | nil => simp [sizesD]
  | cons a l ih =>
    have h1 := h a List.mem_cons_self
    have h2 := ih fun x hx => h x (List.mem_cons_of_mem _ hx)
    simp only [sizesD, List.length_cons, Nat.add_mul]
    omega
theorem light_all {l : List Cd} (h : heavyB ⟨[], [spellC l], 0⟩ = false) : sizesD l ≤ 540000 := by
  have h1 := sizesD_le fun x hx => light_one h hx
  simp only [heavyB, List.any_cons, List.any_nil, Bool.or_false, Bool.or_eq_false_iff, heavyC, heavyA] at h
  have h2 := h.2.1.1.1
  simp only [decide_eq_false_iff_not, spellC, List.length_map] at h2
  have h3 : l.length * 27000 ≤ 20 * 27000 := Nat.mul_le_mul_right _ (by omega)
  omega

theorem again_less {sort : Int} {l : List Cd} (h : okRow l = true) : expand sort (l.take (l.length - 1)) = (zC, 12) := by
  by_cases e : l.length ≤ 1
  · exact exp_none (.inr (List.take_eq_nil_iff.2 (.inl (by omega))))
  · obtain ⟨x, hx, _⟩ := get_of_lt (show l.length - 2 < l.length by omega)
    have h1 := okRow_iff.1 h _ _ hx
    have hx2 : (l.take (l.length - 1))[l.length - 2]? = some x := by rw [List.getElem?_take, if_pos (by omega)]; exact hx
    refine exp_bad hx2 (fun ⟨_, q⟩ => ?_)
    have hl : (l.take (l.length - 1)).length = l.length - 1 := by rw [List.length_take]; omega
    rw [hl] at q
    have := h1.2.1 (q.2 (by omega))
    omega

theorem again_more {sort : Int} {l : List Cd} {k : Nat} {x : Cd} (h : okRow l = true) (hk : k < l.length) (hx : l[l.length - 1]? = some x) : expand sort (l.take k ++ [x] ++ l.drop k) = (zC, 12) := by
  have h1 := okRow_iff.1 h _ _ hx
  have hx2 : (l.take k ++ [x] ++ l.drop k)[k]? = some x := by
    rw [List.append_assoc, List.getElem?_append_right (by rw [List.length_take]; omega), List.length_take]
    simp [Nat.min_eq_left (Nat.le_of_lt hk)]
  refine exp_bad hx2 (fun ⟨_, q⟩ => ?_)
  have hl : (l.take k ++ [x] ++ l.drop k).length = l.length + 1 := by simp; omega
  rw [hl] at q
  have := q.1 (h1.2.2 (by omega))
  omega

/-- The place is taken within the row. -/
theorem at_ok (at_ : Int) {n : Nat} (hn : 0 < n) (hn2 : n ≤ 1048576) : ∃ k : Nat, k < n ∧ IntKind.i64.wrap ((IntKind.u64.wrap at_).tmod (IntKind.u64.wrap (n : Int))) = (k : Int) := by
  have h1 : IntKind.u64.wrap (n : Int) = n := by simp [IntKind.wrap, IntKind.signed, IntKind.bits]; omega
  have h2 : 0 ≤ IntKind.u64.wrap at_ := by simp [IntKind.wrap, IntKind.signed, IntKind.bits]; omega
  rw [h1]
  generalize IntKind.u64.wrap at_ = z at h2
  have h3 : z.tmod (n : Int) = z % (n : Int) := Int.tmod_eq_emod_of_nonneg h2
  have h4 : 0 ≤ z % (n : Int) := Int.emod_nonneg _ (by omega)
  have h5 : z % (n : Int) < n := Int.emod_lt_of_pos _ (by omega)
  refine ⟨(z % (n : Int)).toNat, by omega, ?_⟩
  rw [h3, wrap_ok (by omega) (by omega)]
  omega

theorem kcon_zero : FC Try.prog 19 [aC zC, .agg [.int .i64 0, .lst 7 [] true, .lst 3 [] true, .int .i64 0, .int .i64 0, .lst 3 [] true]] (.bool true) := by
  have := kcon_spec zC zC (by simp [zC, zT, Cn.size, sizesA, sizes, Tm.size])
  rw [decide_eq_true rfl] at this
  refine this.args (.cons (.refl _) (.cons (.agg ?_) .nil))
  repeat' (first | exact Wks.nil | refine Wks.cons (Wk.refl _) ?_ | refine Wks.cons (Wk.full _ _ _) ?_ | refine Wks.cons (Wk.nilF _ _ _) ?_)
theorem kcodes_same (l : List Cd) (h : sizesD l ≤ 1048576) : FC Try.prog 12 [sD l, sD l] (.bool true) := by
  have := kcodes_spec l l h
  rwa [decide_eq_true rfl] at this

theorem exp_fc {sort : Int} {l : List Cd} {r : Cn × Int} (h : sizesD l ≤ 1048576) (e : expand sort l = r) : FC Try.prog 17 [.int .i64 sort, sD l] (.tup [aC r.1, .int .i64 r.2]) := by
  have := expand_spec sort l h
  rwa [e] at this

theorem exp_rows {sort : Int} {l : List Cd} {rows : List (List AV)} {r : Cn × Int} (hr : rows = rsD l) (h : sizesD l ≤ 1048576) (e : expand sort l = r) : FC Try.prog 17 [.int .i64 sort, .lst 10 rows false] (.tup [aC r.1, .int .i64 r.2]) := by
  subst hr
  exact exp_fc h e

set_option maxRecDepth 4000 in
set_option maxHeartbeats 4000000 in
theorem again_spec (sort : Int) (l : List Cd) (at_ : Int) (hs : sizesD l + 1 ≤ 1048576) : FC Try.prog 5 [.int .i64 sort, sD l, .int .i64 at_] (.bool true) := by
  have hlen := len_le_sizesD l
  have hsp : (spellC l).size ≤ 1048576 := by rw [spell_size]; omega
  refine FC_intro hty Try.func5 rfl rfl rfl fun w0 => ?_
  by_cases hok : okRow l = true ∧ l ≠ []
  · obtain ⟨X, hX, hXs, hXc⟩ := again_compile (sort := sort) hok.1 hok.2
    have hpos : 0 < l.length := List.length_pos_iff.2 hok.2
    have hXz : X.size ≤ 1048576 := by
      have := exp_size (sort := sort) (l := l)
      rw [hX] at this
      simp only at this
      omega
    obtain ⟨x, hx, hxm⟩ := get_of_lt (show l.length - 1 < l.length by omega)
    have hwr : IntKind.i64.wrap (((rsD l).length : Int) - 1) = ((l.length - 1 : Nat) : Int) := by rw [rsD_length, wrap_ok (by omega) (by omega)]; omega
    have hwn : 0 ≤ IntKind.i64.wrap (((rsD l).length : Int) - 1) := by rw [hwr]; omega
    have hwl : (rsD l)[(IntKind.i64.wrap (((rsD l).length : Int) - 1)).toNat]? = some (cD x) := by rw [hwr, Int.toNat_natCast]; exact rsD_get hx
    obtain ⟨k, hk, hke⟩ := at_ok at_ hpos (by omega)
    have hm0 : IntKind.u64.wrap ((rsD l).length : Int) ≠ 0 := by rw [rsD_length]; simp [IntKind.wrap, IntKind.signed, IntKind.bits]; omega
    have htk := sizesD_append (l.take k) (l.drop k)
    rw [List.take_append_drop] at htk
    have hxz := size_le_sizesD hxm
    have hmore := again_more (sort := sort) hok.1 hk hx
    have hcc := compile_spec X hXz
    rw [hXc] at hcc
    repeat' (first
      | exact absurd rfl ‹_›
      | refine WL_call 0 rfl (spell_spec l (by omega)) rfl rfl rfl ?_
      | refine WL_callB rfl (heavyN_spec (spellC l) hsp) rfl (fun _ => ?_) (fun _ => ?_)
      | refine WL_call 0 rfl (exp_fc (by omega) hX) rfl rfl rfl ?_
      | refine WL_call 0 rfl hcc rfl rfl rfl ?_
      | refine WL_call 0 rfl wakes_spec rfl rfl rfl ?_
      | refine WL_call 0 rfl (kcodes_same l (by omega)) rfl rfl rfl ?_
      | refine WL_m rfl (m_sliceL hty 0 (l.length - 1) rfl rfl rfl ⟨_, _, rfl, hwr⟩ (Nat.zero_le _) (by rw [rsD_length]; omega) rfl) ?_
      | refine WL_call 0 rfl (exp_rows (by rw [List.drop_zero, rsD_take]) (Nat.le_trans (sizesD_take l _) (by omega)) (again_less hok.1)) rfl rfl rfl ?_
      | refine WL_m rfl (m_conv rfl rfl rfl rfl) ?_
      | refine WL_m rfl (m_rem rfl rfl hm0 rfl) ?_
      | refine WL_p hty rfl rfl ?_
      | refine WL_nil ?_
      | refine AC_seq ?_
      | refine AC_region ?_
      | refine AC_block ?_
      | refine AC_skip ?_
      | refine AC_condT rfl ?_
      | refine AC_condF rfl ?_
      | refine AC_exit ?_
      | refine AC_ret ?_
      | refine WL_ung rfl rfl ?_
      | refine WL_offT rfl rfl rfl ?_
      | refine WL_offF rfl rfl rfl ?_
      | refine WL_offU rfl rfl rfl ?_
      | refine WL_m rfl (m_idxN hty rfl rfl rfl (by assumption) rfl) ?_
      | refine ends_bool rfl ?_
      | refine WL_cmp rfl rfl rfl rfl (fun _ => ?_) (fun _ => ?_)
      | refine AC_cond rfl (fun _ => ?_) (fun _ => ?_))
    · rfl
    · rfl
    · exact absurd hXs ‹_›
    · rename_i h0
      rw [rsD_length] at h0
      omega
    · have hl : heavyB ⟨[], [spellC l], 0⟩ = false := by assumption
      have hl1 := light_one hl hxm
      have hl2 := light_all hl
      have hmz : sizesD (l.take k ++ [x] ++ l.drop k) ≤ 1048576 := by
        rw [sizesD_append, sizesD_append]
        simp only [sizesD]
        omega
      have hk2 : ((rsD l).take (rsD l).length).drop k ≠ [] := by
        intro q
        have := congrArg List.length q
        simp [rsD_length] at this
        omega
      rw [rsD_length l, hke]
      cases k with
      | zero =>
        repeat' (first
          | refine WD_cons (.inl ⟨rfl, m_sliceL hty 0 0 rfl rfl rfl ⟨_, _, rfl, rfl⟩ (Nat.zero_le _) (by rw [rsD_length]; omega) rfl⟩) ?_
          | refine WD_cons (.inl ⟨rfl, m_sliceL hty 0 (rsD l).length rfl rfl ⟨_, _, rfl, rfl⟩ rfl (by rw [rsD_length]; omega) (Nat.le_refl _) rfl⟩) ?_
          | refine WD_cons (.inl ⟨rfl, m_idxL hty rfl rfl rfl hwn hwl rfl⟩) ?_
          | refine WD_cons (.inl ⟨rfl, m_app0 hty rfl rfl rfl rfl rfl rfl rfl⟩) ?_
          | refine WD_cons (.inl ⟨rfl, m_appA hty 1085 rfl rfl rfl rfl rfl rfl rfl rfl (by first | exact List.cons_ne_nil _ _ | exact hk2) (by simp [rsD_length] <;> omega) rfl rfl rfl⟩) ?_
          | refine WD_cons (.inl ⟨rfl, m_appA hty 1089 rfl rfl rfl rfl rfl rfl rfl rfl hk2 (by simp [rsD_length] <;> omega) rfl rfl rfl⟩) ?_
          | refine WD_cons (.inl ⟨rfl, m_appFz hty 1077 rfl rfl rfl rfl rfl rfl rfl (by first | exact List.cons_ne_nil _ _ | exact hk1) (by simp [rsD_length] <;> omega) rfl rfl rfl⟩) ?_
          | refine WL_call 0 rfl (exp_rows (l := l.take 0 ++ [x] ++ l.drop 0) (by simp [rsD_append, rsD_take, rsD_drop, ← rsD_length l, rsD]) hmz hmore) rfl rfl rfl ?_
          | refine WL_call 0 rfl wakes_spec rfl rfl rfl ?_
          | refine AC_drawn [[], [], [], [1, 2], [0, 1, 2, 3], [], [], [6], [6, 7], [5, 6, 7, 8], [5, 6, 7, 8, 9], [5, 6, 7, 8, 9, 10], [0, 1, 2, 3, 4, 5, 6, 7, 8, 9, 10, 11], [], [], [13, 14], [0, 1, 2, 3, 4, 5, 6, 7, 8, 9, 10, 11, 12, 13, 14, 15], [0, 1, 2, 3, 4, 5, 6, 7, 8, 9, 10, 11, 12, 13, 14, 15, 16]] rfl rfl ?_
          | refine WD_cons (.inl ⟨rfl, stepE_ok hty rfl rfl⟩) ?_
          | refine WD_cons (.inl ⟨rfl, m_idxN hty rfl rfl rfl (by assumption) rfl⟩) ?_
          | refine WD_ung rfl rfl ?_
          | refine WD_offT rfl rfl rfl ?_
          | refine WD_offF rfl rfl rfl ?_
          | refine WD_offU rfl rfl rfl ?_
          | refine WD_nil ⟨by kernel_rfl, ?_⟩
          | refine WL_p hty rfl rfl ?_
          | refine WL_nil ?_
          | refine AC_seq ?_
          | refine AC_region ?_
          | refine AC_block ?_
          | refine AC_skip ?_
          | refine AC_condT rfl ?_
          | refine AC_condF rfl ?_
          | refine AC_exit ?_
          | refine AC_ret ?_
          | refine WL_ung rfl rfl ?_
          | refine WL_offT rfl rfl rfl ?_
          | refine WL_offF rfl rfl rfl ?_
          | refine WL_offU rfl rfl rfl ?_
          | refine WL_m rfl (m_idxN hty rfl rfl rfl (by assumption) rfl) ?_
          | refine ends_bool rfl ?_
          | refine WL_cmp rfl rfl rfl rfl (fun _ => ?_) (fun _ => ?_)
          | refine AC_cond rfl (fun _ => ?_) (fun _ => ?_))
        all_goals first
          | rfl
          | exact absurd rfl ‹_›
      | succ k =>
        have hk1 : ((rsD l).take (k + 1)).drop 0 ≠ [] := by
          intro q
          have := congrArg List.length q
          rw [List.drop_zero, List.length_take, rsD_length, List.length_nil] at this
          omega
        repeat' (first
          | refine WD_cons (.inl ⟨rfl, m_sliceL hty 0 (k + 1) rfl rfl rfl ⟨_, _, rfl, rfl⟩ (Nat.zero_le _) (by rw [rsD_length]; omega) rfl⟩) ?_
          | refine WD_cons (.inl ⟨rfl, m_sliceL hty (k + 1) (rsD l).length rfl rfl ⟨_, _, rfl, rfl⟩ rfl (by rw [rsD_length]; omega) (Nat.le_refl _) rfl⟩) ?_
          | refine WD_cons (.inl ⟨rfl, m_idxL hty rfl rfl rfl hwn hwl rfl⟩) ?_
          | refine WD_cons (.inl ⟨rfl, m_app0 hty rfl rfl rfl rfl rfl rfl rfl⟩) ?_
          | refine WD_cons (.inl ⟨rfl, m_appA hty 1085 rfl rfl rfl rfl rfl rfl rfl rfl (by first | exact List.cons_ne_nil _ _ | exact hk2) (by simp [rsD_length] <;> omega) rfl rfl rfl⟩) ?_
          | refine WD_cons (.inl ⟨rfl, m_appA hty 1089 rfl rfl rfl rfl rfl rfl rfl rfl hk2 (by simp [rsD_length] <;> omega) rfl rfl rfl⟩) ?_
          | refine WD_cons (.inl ⟨rfl, m_appFz hty 1077 rfl rfl rfl rfl rfl rfl rfl (by first | exact List.cons_ne_nil _ _ | exact hk1) (by simp [rsD_length] <;> omega) rfl rfl rfl⟩) ?_
          | refine WL_call 0 rfl (exp_rows (l := l.take (k + 1) ++ [x] ++ l.drop (k + 1)) (by simp [rsD_append, rsD_take, rsD_drop, ← rsD_length l, rsD]) hmz hmore) rfl rfl rfl ?_
          | refine WL_call 0 rfl wakes_spec rfl rfl rfl ?_
          | refine AC_drawn [[], [], [], [1, 2], [0, 1, 2, 3], [], [], [6], [6, 7], [5, 6, 7, 8], [5, 6, 7, 8, 9], [5, 6, 7, 8, 9, 10], [0, 1, 2, 3, 4, 5, 6, 7, 8, 9, 10, 11], [], [], [13, 14], [0, 1, 2, 3, 4, 5, 6, 7, 8, 9, 10, 11, 12, 13, 14, 15], [0, 1, 2, 3, 4, 5, 6, 7, 8, 9, 10, 11, 12, 13, 14, 15, 16]] rfl rfl ?_
          | refine WD_cons (.inl ⟨rfl, stepE_ok hty rfl rfl⟩) ?_
          | refine WD_cons (.inl ⟨rfl, m_idxN hty rfl rfl rfl (by assumption) rfl⟩) ?_
          | refine WD_ung rfl rfl ?_
          | refine WD_offT rfl rfl rfl ?_
          | refine WD_offF rfl rfl rfl ?_
          | refine WD_offU rfl rfl rfl ?_
          | refine WD_nil ⟨by kernel_rfl, ?_⟩
          | refine WL_p hty rfl rfl ?_
          | refine WL_nil ?_
          | refine AC_seq ?_
          | refine AC_region ?_
          | refine AC_block ?_
          | refine AC_skip ?_
          | refine AC_condT rfl ?_
          | refine AC_condF rfl ?_
          | refine AC_exit ?_
          | refine AC_ret ?_
          | refine WL_ung rfl rfl ?_
          | refine WL_offT rfl rfl rfl ?_
          | refine WL_offF rfl rfl rfl ?_
          | refine WL_offU rfl rfl rfl ?_
          | refine WL_m rfl (m_idxN hty rfl rfl rfl (by assumption) rfl) ?_
          | refine ends_bool rfl ?_
          | refine WL_cmp rfl rfl rfl rfl (fun _ => ?_) (fun _ => ?_)
          | refine AC_cond rfl (fun _ => ?_) (fun _ => ?_))
        all_goals first
          | rfl
          | exact absurd rfl ‹_›
  · have hX : expand sort l = (zC, 12) := exp_none (by
      cases q : okRow l with
      | false => exact .inl rfl
      | true => exact .inr (Classical.byContradiction fun h => hok ⟨q, h⟩))
    repeat' (first
      | refine WL_call 0 rfl (spell_spec l (by omega)) rfl rfl rfl ?_
      | refine WL_callB rfl (heavyN_spec (spellC l) hsp) rfl (fun _ => ?_) (fun _ => ?_)
      | refine WL_call 0 rfl (exp_fc (by omega) hX) rfl rfl rfl ?_
      | refine WL_call 0 rfl kcon_zero rfl rfl rfl ?_
      | exact absurd rfl ‹_›
      | exact absurd (show ((12 : Int) ≠ 0) by decide) ‹¬ _›
      | refine WL_call 0 rfl wakes_spec rfl rfl rfl ?_
      | refine WL_p hty rfl rfl ?_
      | refine WL_nil ?_
      | refine AC_seq ?_
      | refine AC_region ?_
      | refine AC_block ?_
      | refine AC_skip ?_
      | refine AC_condT rfl ?_
      | refine AC_condF rfl ?_
      | refine AC_exit ?_
      | refine AC_ret ?_
      | refine WL_ung rfl rfl ?_
      | refine WL_offT rfl rfl rfl ?_
      | refine WL_offF rfl rfl rfl ?_
      | refine WL_offU rfl rfl rfl ?_
      | refine WL_m rfl (m_idxN hty rfl rfl rfl (by assumption) rfl) ?_
      | refine ends_bool rfl ?_
      | refine WL_cmp rfl rfl rfl rfl (fun _ => ?_) (fun _ => ?_)
      | refine AC_cond rfl (fun _ => ?_) (fun _ => ?_))
    all_goals rfl
end Go.Proofs.Ytgjoeoojplbhpaa
