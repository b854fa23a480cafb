/-
  CodeBack's own body: a constructor of a right block is what its code is expanded to.
-/
import Derived.Test.YtgjoeoojplbhpaaShape3
import Derived.Test.YtgjoeoojplbhpaaAgain
namespace Go.Proofs.Ytgjoeoojplbhpaa
set_option linter.unusedSimpArgs false
set_option linter.unusedVariables false
open Go.Aw Go.RowKit
attribute [local irreducible] WL AC WD MStep OkOp

/-! the plain law -/
theorem argB_back {b : Bl} {a : Ar} {i : Int} (h : argB b a i = true) : argOf (codeOf a) = a := by
  obtain ⟨rc, tt, dd, so, ix⟩ := a
  cases rc
  · have h : (openT tt i && (decide ((dd.length : Int) + ix.length = 0) && decide (so = 0))) = true := h
    simp only [Bool.and_eq_true, decide_eq_true_eq] at h
    obtain ⟨_, h1, h2⟩ := h
    obtain rfl : dd = [] := List.length_eq_zero_iff.1 (by omega)
    obtain rfl : ix = [] := List.length_eq_zero_iff.1 (by omega)
    subst h2
    rfl
  · have h : ((decide (tt = zT) && (decide (dd.length ≤ 12) && (inR so 0 ((b.sorts.length : Int) - 1) && decide (ix.length = idxN b so)))) && (openSeq i dd && ix.all fun t => openT t (i + dd.length))) = true := h
    simp only [Bool.and_eq_true, decide_eq_true_eq] at h
    obtain ⟨⟨h1, _⟩, _⟩ := h
    subst h1
    rfl
theorem argSeq_back {b : Bl} : ∀ {l : List Ar} {i : Int}, argSeq b i l = true → l.map (fun a => argOf (codeOf a)) = l
  | [], _, _ => rfl
  | a :: l, i, h => by
    simp only [argSeq, Bool.and_eq_true] at h
    rw [List.map_cons, argB_back h.1, argSeq_back h.2]
theorem codeOf_formed (a : Ar) : formedD (codeOf a) = true ∧ (codeOf a).kind ≠ 1 := by
  obtain ⟨rc, tt, dd, so, ix⟩ := a
  cases rc <;> simp [codeOf, formedD]
theorem compile_ok (c : Cn) : okRow (compile c) = true := by
  rw [okRow_iff]
  intro i x hx
  have hlen : (compile c).length = c.args.length + 1 := by simp [compile]
  by_cases hi : i < c.args.length
  · obtain ⟨a, ha, _⟩ := get_of_lt hi
    have := compile_get ha
    rw [hx] at this
    obtain rfl := Option.some.inj this
    have h1 := codeOf_formed a
    exact ⟨h1.1, by constructor <;> intro q <;> first | exact absurd q h1.2 | omega⟩
  · have hlt : i < (compile c).length := (List.getElem?_eq_some_iff.1 hx).1
    obtain rfl : i = c.args.length := by omega
    rw [compile_last] at hx
    obtain rfl := Option.some.inj hx
    exact ⟨by simp [formedD], by simp [hlen]⟩
theorem back_expand {b : Bl} {c : Cn} (h : conB b c = true) : expand c.sort (compile c) = (c, 0) := by
  have h1 : argSeq b 0 c.args = true := by
    simp only [conB, Bool.and_eq_true] at h
    exact h.2.1
  have h2 := argSeq_back h1
  unfold expand
  rw [compile_ok]
  have h3 : (compile c).getLast? = some ⟨1, zT, [], 0, c.idx, c.dec⟩ := by simp [compile]
  have h4 : (compile c).dropLast = c.args.map codeOf := by simp [compile]
  rw [h3]
  simp only [h4, List.map_map]
  have h5 : c.args.map (argOf ∘ codeOf) = c.args := h2
  rw [h5]
theorem compile_sizes (c : Cn) : sizesD (compile c) ≤ c.size + 2 * c.args.length + 2 := by
  have h1 : ∀ l : List Ar, sizesD (l.map codeOf) ≤ sizesA l + 2 * l.length := by
    intro l
    induction l with
    | nil => exact Nat.le_refl _
    | cons a l ih =>
      have : (codeOf a).size ≤ a.size + 2 := by
        obtain ⟨rc, tt, dd, so, ix⟩ := a
        cases rc <;> simp [codeOf, Ar.size, Cd.size, sizes, zT, Tm.size] <;> omega
      simp only [List.map_cons, sizesA, sizesD, List.length_cons]
      omega
  have := h1 c.args
  unfold compile
  rw [sizesD_append]
  simp only [sizesD, Cd.size, Cn.size, zT, Tm.size, sizes]
  omega
theorem kcon_same (c : Cn) (h : c.size ≤ 1048576) : FC Try.prog 19 [aC c, aC c] (.bool true) := by
  have := kcon_spec c c h
  rwa [decide_eq_true rfl] at this

/-- What is not heavy is small. -/
theorem lightA {l : List Ar} (h : heavyA l = false) : sizesA l ≤ 540000 ∧ l.length ≤ 20 := by
  simp only [heavyA, Bool.or_eq_false_iff, decide_eq_false_iff_not] at h
  obtain ⟨h1, h2⟩ := h
  rw [List.any_eq_false] at h2
  have h3 : ∀ a ∈ l, a.size ≤ 27000 := by
    intro a ha
    have := h2 a ha
    simp only [Bool.or_eq_true, not_or, Bool.not_eq_true] at this
    obtain ⟨⟨q1, q2⟩, q3⟩ := this
    have q1 := lightT q1
    have q2 := lightT q2
    have q3 := lightT q3
    simp only [sizes] at q1
    unfold Ar.size
    omega
  have h4 : ∀ m : List Ar, (∀ a ∈ m, a.size ≤ 27000) → sizesA m ≤ m.length * 27000 := by
    intro m
    induction m with
    | nil => intro _; simp [sizesA]
    | cons a m ih =>
      intro hm
      have q1 := hm a List.mem_cons_self
      have q2 := ih fun x hx => hm x (List.mem_cons_of_mem _ hx)
      simp only [sizesA, List.length_cons, Nat.add_mul]
      omega
  have h5 := h4 l h3
  have h6 : l.length * 27000 ≤ 20 * 27000 := Nat.mul_le_mul_right _ (by omega)
  exact ⟨by omega, by omega⟩
theorem lightC {c : Cn} (h : heavyC c = false) : c.size ≤ 560000 ∧ c.args.length ≤ 20 := by
  simp only [heavyC, Bool.or_eq_false_iff] at h
  obtain ⟨⟨h1, h2⟩, h3⟩ := h
  have h1 := lightA h1
  have h2 := lightT h2
  have h3 := lightT h3
  simp only [sizes] at h3
  unfold Cn.size
  omega
theorem light_con {b : Bl} (h : heavyB b = false) {c : Cn} (hc : c ∈ b.cons) : c.size ≤ 560000 ∧ c.args.length ≤ 20 := by
  simp only [heavyB, Bool.or_eq_false_iff] at h
  have h2 := h.2
  rw [List.any_eq_false] at h2
  exact lightC (Bool.eq_false_iff.2 (h2 c hc))

set_option maxRecDepth 4000 in
set_option maxHeartbeats 4000000 in
theorem back_spec (b : Bl) (hb : b.size ≤ 1048576) : FC Try.prog 4 [aB b] (.bool true) := by
  have hcl := len_le_sizesC b.cons
  have hb' := hb
  unfold Bl.size at hb'
  refine FC_intro hty Try.func4 rfl rfl rfl fun w0 => ?_
  repeat' (first
    | refine WL_callB rfl (heavyB_spec b hb) rfl (fun _ => ?_) (fun _ => ?_)
    | refine WL_callRB rfl (shape_spec b hb) rfl (fun _ => ?_) (fun _ => ?_)
    | refine WL_p hty rfl rfl ?_
    | refine WL_nil ?_
    | refine AC_seq ?_
    | refine AC_region ?_
    | refine AC_block ?_
    | refine AC_skip ?_
    | refine AC_condT rfl ?_
    | refine AC_condF rfl ?_
    | refine AC_exit ?_
    | refine AC_ret ?_
    | refine WL_ung rfl rfl ?_
    | refine WL_offT rfl rfl rfl ?_
    | refine WL_offF rfl rfl rfl ?_
    | refine WL_offU rfl rfl rfl ?_
    | refine WL_m rfl (m_idxN hty rfl rfl rfl (by assumption) rfl) ?_
    | refine ends_bool rfl ?_
    | refine WL_cmp rfl rfl rfl rfl (fun _ => ?_) (fun _ => ?_)
    | refine AC_cond rfl (fun _ => ?_) (fun _ => ?_))
  · rfl
  · rename_i hh hcon
    have hcon := hcon rfl
    refine AC_for b.cons.length (fun _ => True) (fun j => ⟨envOf [(1, .ptr 1 0), (3, .int .i64 (j : Nat))],
      bkOf [(1, .box [.lst 6 (rsS b.sorts) false, .lst 6 (rsC b.cons) false, .int .i64 b.elim])]⟩) (less_sub ⟨⟨_, rfl, .inl ⟨.refl _, rfl⟩⟩, ⟨_, rfl, .inl ⟨.refl _, rfl⟩⟩, trivial⟩ ⟨⟨⟨_, rfl, .refl _⟩, rfl⟩, trivial⟩) trivial ?_
    intro j hj _
    repeat' (first
      | refine WL_p hty rfl rfl ?_
      | refine WL_nil ?_
      | refine AC_seq ?_
      | refine AC_region ?_
      | refine AC_block ?_
      | refine AC_skip ?_
      | refine AC_condT rfl ?_
      | refine AC_condF rfl ?_
      | refine AC_exit ?_
      | refine AC_ret ?_
      | refine WL_ung rfl rfl ?_
      | refine WL_offT rfl rfl rfl ?_
      | refine WL_offF rfl rfl rfl ?_
      | refine WL_offU rfl rfl rfl ?_
      | refine WL_m rfl (m_idxN hty rfl rfl rfl (by assumption) rfl) ?_
      | refine ends_bool rfl ?_)
    refine WL_cmp rfl rfl rfl rfl (fun hc => ?_) (fun hc => ?_)
    · have hlt : j < b.cons.length := by rw [rsC_length] at hc; omega
      obtain ⟨c, hcc, hcm⟩ := get_of_lt hlt
      have rc := rsC_get hcc
      have hcs := size_le_sizesC hcm
      have hl := light_con hh hcm
      have hcz := compile_sizes c
      have hcl : (compile c).length = c.args.length + 1 := by simp [compile]
      repeat' (first
        | exact absurd rfl ‹_›
        | refine WL_call 0 rfl (compile_spec c (by omega)) rfl rfl rfl ?_
        | refine WL_call 0 rfl (exp_fc (by omega) (back_expand (hcon c hcm))) rfl rfl rfl ?_
        | refine AC_drawn [[], [0], [0, 1], [0, 1, 2], [0, 1, 2], [0, 1, 2, 4], [0, 1, 2], [0, 1, 2, 4, 5, 6], [0, 1, 2, 4, 5, 6, 7], [0, 1, 2, 3, 4, 5, 6, 7, 8], [0, 1, 2, 3, 4, 5, 6, 7, 8, 9], [0, 1, 2, 3, 4, 5, 6, 7, 8, 9, 10], [0, 1, 2, 3, 4, 5, 6, 7, 8, 9, 10, 11], [0, 1, 2, 3, 4, 5, 6, 7, 8, 9, 10, 11, 12], [0, 1, 2, 3, 4, 5, 6, 7, 8, 9, 10, 11, 12, 13], [0, 1, 2, 3, 4, 5, 6, 7, 8, 9, 10, 11, 12], [0, 1, 2, 3, 4, 5, 6, 7, 8, 9, 10, 11, 12, 15], [0, 1, 2, 3, 4, 5, 6, 7, 8, 9, 10, 11, 12], [0, 1, 2, 3, 4, 5, 6, 7, 8, 9, 10, 11, 12, 15, 16, 17], [0, 1, 2, 3, 4, 5, 6, 7, 8, 9, 10, 11, 12, 15, 16, 17, 18], [0, 1, 2, 3, 4, 5, 6, 7, 8, 9, 10, 11, 12, 15, 16, 17, 18, 19], [0, 1, 2, 3, 4, 5, 6, 7, 8, 9, 10, 11, 12, 15, 16, 17, 18, 19, 20], [0, 1, 2, 3, 4, 5, 6, 7, 8, 9, 10, 11, 12, 15, 16, 17, 18, 19, 20, 21], [0, 1, 2, 3, 4, 5, 6, 7, 8, 9, 10, 11, 12, 13, 14, 15, 16, 17, 18, 19, 20, 21, 22], [0, 1, 2, 3, 4, 5, 6, 7, 8, 9, 10, 11, 12, 13, 14, 15, 16, 17, 18, 19, 20, 21, 22, 23]] rfl rfl ?_
        | refine WD_call 0 rfl (kcon_same c (by omega)) rfl rfl rfl ?_
        | refine WD_cons (.inl ⟨rfl, stepE_ok hty rfl rfl⟩) ?_
        | refine WD_cons (.inl ⟨rfl, m_idxN hty rfl rfl rfl (by assumption) rfl⟩) ?_
        | refine WD_ung rfl rfl ?_
        | refine WD_offT rfl rfl rfl ?_
        | refine WD_offF rfl rfl rfl ?_
        | refine WD_offU rfl rfl rfl ?_
        | refine WD_nil ⟨by kernel_rfl, ?_⟩
        | refine WL_p hty rfl rfl ?_
        | refine WL_nil ?_
        | refine AC_seq ?_
        | refine AC_region ?_
        | refine AC_block ?_
        | refine AC_skip ?_
        | refine AC_condT rfl ?_
        | refine AC_condF rfl ?_
        | refine AC_exit ?_
        | refine AC_ret ?_
        | refine WL_ung rfl rfl ?_
        | refine WL_offT rfl rfl rfl ?_
        | refine WL_offF rfl rfl rfl ?_
        | refine WL_offU rfl rfl rfl ?_
        | refine WL_m rfl (m_idxN hty rfl rfl rfl (by assumption) rfl) ?_
        | refine ends_bool rfl ?_
        | refine WL_cmp rfl rfl rfl rfl (fun _ => ?_) (fun _ => ?_)
        | refine AC_cond rfl (fun _ => ?_) (fun _ => ?_)
        | refine WD_cmp rfl rfl rfl rfl (fun _ => ?_) (fun _ => ?_))
      · rename_i hq
        refine absurd ?_ hq
        show ((rsD (compile c)).length : Int) = IntKind.i64.wrap (((rsA c.args).length : Int) + 1)
        rw [rsD_length, rsA_length, hcl, wrap_ok (by omega) (by omega)]
        rfl
      · refine ⟨hlt, trivial, (less_sub ⟨⟨_, rfl, .inl ⟨.refl _, rfl⟩⟩, ⟨_, rfl, see_eq ?_ rfl⟩, trivial⟩ ⟨⟨⟨_, rfl, .refl _⟩, rfl⟩, trivial⟩)⟩
        exact congrArg (AV.int .i64) ((wrap_ok (by omega) (by omega)).trans (by omega))
    · obtain rfl : j = b.cons.length := by rw [rsC_length] at hc; omega
      repeat' (first
        | refine WL_call 0 rfl wakes_spec rfl rfl rfl ?_
        | refine WL_p hty rfl rfl ?_
        | refine WL_nil ?_
        | refine AC_seq ?_
        | refine AC_region ?_
        | refine AC_block ?_
        | refine AC_skip ?_
        | refine AC_condT rfl ?_
        | refine AC_condF rfl ?_
        | refine AC_exit ?_
        | refine AC_ret ?_
        | refine WL_ung rfl rfl ?_
        | refine WL_offT rfl rfl rfl ?_
        | refine WL_offF rfl rfl rfl ?_
        | refine WL_offU rfl rfl rfl ?_
        | refine WL_m rfl (m_idxN hty rfl rfl rfl (by assumption) rfl) ?_
        | refine ends_bool rfl ?_
        | refine WL_cmp rfl rfl rfl rfl (fun _ => ?_) (fun _ => ?_)
        | refine AC_cond rfl (fun _ => ?_) (fun _ => ?_))
      all_goals rfl
  · rfl
end Go.Proofs.Ytgjoeoojplbhpaa
