/-
  The laws' wakes: of the successor.
-/
import Derived.Test.YtgjoeoojplbhpaaExpand
import Derived.Test.YtgjoeoojplbhpaaNat
import Derived.Test.YtgjoeoojplbhpaaKeep2
namespace Go.Proofs.Ytgjoeoojplbhpaa
set_option linter.unusedSimpArgs false
set_option linter.unusedVariables false
open Go.Aw Go.RowKit
attribute [local irreducible] WL AC WD MStep OkOp

def sucC : Cn := ⟨0, [recA], [], zT⟩

set_option maxHeartbeats 4000000 in
theorem wakes_spec : FC Try.prog 20 [] (.bool true) := by
  have s1 : sucC.size ≤ 1048576 := by simp [sucC, recA, zT, Cn.size, sizesA, Ar.size, sizes, Tm.size]
  have s2 : sizesD (compile sucC) ≤ 1048576 := by simp [compile, codeOf, sucC, recA, zT, sizesD, Cd.size, sizes, Tm.size]
  have s3 : (expand 0 (compile sucC)).1.size ≤ 1048576 := by simp [expand, okRow, formedD, argOf, compile, codeOf, sucC, recA, zT, Cn.size, sizesA, Ar.size, sizes, Tm.size]
  refine FC_intro hty Try.func20 rfl rfl rfl fun w0 => ?_
  repeat' (first
    | refine WL_call 0 rfl nat_spec rfl rfl rfl ?_
    | refine WL_m rfl (m_field hty rfl rfl rfl) ?_
    | refine WL_m rfl (m_idxL hty rfl rfl rfl (by decide) rfl rfl) ?_
    | refine WL_call 0 rfl (compile_spec sucC s1) rfl rfl rfl ?_
    | refine WL_call 0 rfl (expand_spec 0 (compile sucC) s2) rfl rfl rfl ?_
    | refine WL_callB rfl (kcon_spec (expand 0 (compile sucC)).1 sucC s3) rfl (fun _ => ?_) (fun _ => ?_)
    | refine WL_p hty rfl rfl ?_
    | refine WL_nil ?_
    | refine AC_seq ?_
    | refine AC_region ?_
    | refine AC_block ?_
    | refine AC_skip ?_
    | refine AC_condT rfl ?_
    | refine AC_condF rfl ?_
    | refine AC_exit ?_
    | refine AC_ret ?_
    | refine WL_ung rfl rfl ?_
    | refine WL_offT rfl rfl rfl ?_
    | refine WL_offF rfl rfl rfl ?_
    | refine WL_offU rfl rfl rfl ?_
    | refine WL_m rfl (m_idxN hty rfl rfl rfl (by assumption) rfl) ?_
    | refine ends_bool rfl ?_
    | refine WL_cmp rfl rfl rfl rfl (fun _ => ?_) (fun _ => ?_)
    | refine AC_cond rfl (fun _ => ?_) (fun _ => ?_))
  · rfl
  all_goals
    rename_i hx
    exfalso
  · have he : (expand 0 (compile sucC)).1 = sucC := by simp [expand, okRow, formedD, argOf, compile, codeOf, sucC, recA, zT]
    rw [he] at hx
    simp at hx
  · exact hx (by simp [expand, okRow, formedD, compile, codeOf, sucC, recA, zT])
  · exact hx rfl
  · exact hx rfl
  · exact hx rfl

end Go.Proofs.Ytgjoeoojplbhpaa
