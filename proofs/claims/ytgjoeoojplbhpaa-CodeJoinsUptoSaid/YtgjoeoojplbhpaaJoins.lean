/-
  CodeJoins' own body: the codes of two constructors, the first one's without its end.
-/
import Derived.Test.YtgjoeoojplbhpaaBack0
import Derived.Test.YtgjoeoojplbhpaaCompileW
namespace Go.Proofs.Ytgjoeoojplbhpaa
set_option linter.unusedSimpArgs false
set_option linter.unusedVariables false
open Go.Aw Go.RowKit
attribute [local irreducible] WL AC WD MStep OkOp

theorem expand_compile (s : Int) (c : Cn) : expand s (compile c) = (⟨s, (c.args.map codeOf).map argOf, c.idx, c.dec⟩, 0) := by
  unfold expand
  rw [compile_ok]
  have h3 : (compile c).getLast? = some ⟨1, zT, [], 0, c.idx, c.dec⟩ := by simp [compile]
  have h4 : (compile c).dropLast = c.args.map codeOf := by simp [compile]
  rw [h3]
  simp only [h4]
theorem joins_codes (a b : Cn) : (compile a).take a.args.length ++ compile b = compile ⟨b.sort, a.args ++ b.args, b.idx, b.dec⟩ := by
  unfold compile
  rw [List.take_append_of_le_length (by rw [List.length_map]; exact Nat.le_refl _), List.take_of_length_le (by rw [List.length_map]; exact Nat.le_refl _)]
  simp

set_option maxRecDepth 4000 in
set_option maxHeartbeats 4000000 in
theorem joins_spec (a b : Cn) (h : 3 * a.size + 3 * b.size + 4 ≤ 1048576) : FC Try.prog 7 [aC a, aC b] (.bool true) := by
  have hla := len_le_sizesA a.args
  have hlb := len_le_sizesA b.args
  have hca := compile_sizes a
  have hcb := compile_sizes b
  have ha : a.args.length ≤ a.size := by unfold Cn.size; omega
  have hb : b.args.length ≤ b.size := by unfold Cn.size; omega
  have hbz : sizes b.idx ≤ b.size ∧ b.dec.size ≤ b.size := by unfold Cn.size; omega
  have hka : (compile a).length = a.args.length + 1 := by simp [compile]
  have hkb : (compile b).length = b.args.length + 1 := by simp [compile]
  have hxa := exp_fc (sort := 0) (l := compile a) (by omega) (expand_compile 0 a)
  have hxb := exp_fc (sort := 0) (l := compile b) (by omega) (expand_compile 0 b)
  have hwr : IntKind.i64.wrap (((rsD (compile a)).length : Int) - 1) = (a.args.length : Int) := by rw [rsD_length, hka, wrap_ok (by omega) (by omega)]; omega
  have hne : rsD (compile b) ≠ [] := by
    intro q
    have := congrArg List.length q
    rw [rsD_length, hkb] at this
    simp at this
  have hrows : (rsD (compile a)).take a.args.length ++ rsD (compile b) = rsD (compile ⟨b.sort, a.args ++ b.args, b.idx, b.dec⟩) := by
    rw [← joins_codes, rsD_append, rsD_take]
  have hjz : sizesD (compile ⟨b.sort, a.args ++ b.args, b.idx, b.dec⟩) ≤ 1048576 := by
    rw [← joins_codes, sizesD_append]
    have := sizesD_take (compile a) a.args.length
    omega
  have hjo := exp_rows (sort := b.sort) hrows hjz (expand_compile b.sort ⟨b.sort, a.args ++ b.args, b.idx, b.dec⟩)
  refine FC_intro hty Try.func7 rfl rfl rfl fun w0 => ?_
  repeat' (first
    | exact absurd rfl ‹_›
    | refine WL_callB rfl (heavyN_spec a (by omega)) rfl (fun _ => ?_) (fun _ => ?_)
    | refine WL_callB rfl (heavyN_spec b (by omega)) rfl (fun _ => ?_) (fun _ => ?_)
    | refine AC_drawn [[], [0], [], [0, 1, 2], [0, 1, 2, 3], [0, 1, 2, 3, 4]] rfl rfl ?_
    | refine WD_call 2020 rfl (compileW_spec a (by omega)) rfl rfl rfl ?_
    | refine WD_call 2022 rfl (compileW_spec b (by omega)) rfl rfl rfl ?_
    | refine WL_m rfl (m_lent (id0 := 2020) rfl rfl hxa rfl rfl) ?_
    | refine WL_m rfl (m_lent (id0 := 2022) rfl rfl hxb rfl rfl) ?_
    | refine AC_drawn [[102020], [0, 102020], [], [], [3], [3, 4], [2, 3, 4, 5], [], [2, 3, 4, 5, 6, 7], [0, 1, 2, 3, 4, 5, 6, 7, 8], [0, 1, 2, 3, 4, 5, 6, 7, 8, 9], [0, 1, 2, 3, 4, 5, 6, 7, 8, 9, 10], [0, 1, 2, 3, 4, 5, 6, 7, 8, 9, 10], [], [0, 1, 2, 3, 4, 5, 6, 7, 8, 9, 10, 11, 13], [0, 1, 2, 3, 4, 5, 6, 7, 8, 9, 10, 11, 12, 13, 14]] rfl rfl ?_
    | refine WD_m rfl (m_sliceW hty 3048 a.args.length rfl rfl rfl rfl ⟨_, _, rfl, hwr⟩ (by rw [rsD_length]; omega) rfl) ?_
    | refine WD_m rfl (m_appWz hty 3050 rfl rfl rfl rfl rfl rfl rfl rfl hne (by simp only [List.length_take, rsD_length]; omega) rfl rfl rfl) ?_
    | refine WD_call 0 rfl hjo rfl rfl rfl ?_
    | refine WL_call 0 rfl (kterms_same b.idx (by omega)) rfl rfl rfl ?_
    | refine WL_call 0 rfl (kterm_same b.dec (by omega)) rfl rfl rfl ?_
    | refine WL_call 0 rfl wakes_spec rfl rfl rfl ?_
    | refine WD_cons (.inl ⟨rfl, stepE_ok hty rfl rfl⟩) ?_
    | refine WD_cons (.inl ⟨rfl, m_idxN hty rfl rfl rfl (by assumption) rfl⟩) ?_
    | refine WD_ung rfl rfl ?_
    | refine WD_offT rfl rfl rfl ?_
    | refine WD_offF rfl rfl rfl ?_
    | refine WD_offU rfl rfl rfl ?_
    | refine WD_nil ⟨by kernel_rfl, ?_⟩
    | refine WL_p hty rfl rfl ?_
    | refine WL_nil ?_
    | refine AC_seq ?_
    | refine AC_region ?_
    | refine AC_block ?_
    | refine AC_skip ?_
    | refine AC_condT rfl ?_
    | refine AC_condF rfl ?_
    | refine AC_exit ?_
    | refine AC_ret ?_
    | refine WL_ung rfl rfl ?_
    | refine WL_offT rfl rfl rfl ?_
    | refine WL_offF rfl rfl rfl ?_
    | refine WL_offU rfl rfl rfl ?_
    | refine WL_m rfl (m_idxN hty rfl rfl rfl (by assumption) rfl) ?_
    | refine ends_bool rfl ?_
    | refine WL_cmp rfl rfl rfl rfl (fun _ => ?_) (fun _ => ?_)
    | refine AC_cond rfl (fun _ => ?_) (fun _ => ?_)
    | refine WD_cmp rfl rfl rfl rfl (fun _ => ?_) (fun _ => ?_))
  · rfl
  · rfl
  · rename_i h0
    rw [rsD_length, hka] at h0
    omega
  · rename_i h0
    rw [rsD_length, hkb] at h0
    omega
  · rfl
  · rename_i hq
    refine absurd ?_ hq
    show ((rsA (((a.args ++ b.args).map codeOf).map argOf)).length : Int) = IntKind.i64.wrap (((rsA a.args).length : Int) + (rsA b.args).length)
    rw [rsA_length, rsA_length, rsA_length, List.length_map, List.length_map, List.length_append, wrap_ok (n := (a.args.length : Int) + b.args.length) (by omega) (by omega)]
    omega
end Go.Proofs.Ytgjoeoojplbhpaa
