/-
  The numbers' block.
-/
import Derived.Test.YtgjoeoojplbhpaaAwTy
namespace Go.Proofs.Ytgjoeoojplbhpaa
set_option linter.unusedSimpArgs false
set_option linter.unusedVariables false
open Go.Aw Go.RowKit
attribute [local irreducible] WL AC WD MStep OkOp

def recA : Ar := ⟨true, zT, [], 0, []⟩
def natB : Bl := ⟨[⟨[], 0, false, zT⟩], [zC, ⟨0, [recA], [], zT⟩], 0⟩
def declV (b : Bl) : AV := .agg [.int .i64 3, .int .i64 0, .int .i64 0, .lst 3 [] true, .int .i64 0, .int .i64 0, .lst 3 [] true, .lst 6 (rsS b.sorts) false, .lst 6 (rsC b.cons) false, .int .i64 b.elim]

theorem rec0_spec : FC Try.prog 42 [.int .i64 0, .lst 0 [] true] (aA recA) := by
  refine FC_intro hty Try.func42 rfl rfl rfl fun w0 => ?_
  repeat' (first
    | refine WL_m rfl (m_app0 hty rfl rfl rfl rfl rfl rfl rfl) ?_
    | refine WL_p hty rfl rfl ?_
    | refine WL_nil ?_
    | refine AC_seq ?_
    | refine AC_region ?_
    | refine AC_block ?_
    | refine AC_skip ?_
    | refine AC_condT rfl ?_
    | refine AC_condF rfl ?_
    | refine AC_exit ?_
    | refine AC_ret ?_
    | refine WL_ung rfl rfl ?_
    | refine WL_offT rfl rfl rfl ?_
    | refine WL_offF rfl rfl rfl ?_
    | refine WL_offU rfl rfl rfl ?_
    | refine WL_m rfl (m_idxN hty rfl rfl rfl (by assumption) rfl) ?_
    | refine ends_bool rfl ?_
    | refine WL_cmp rfl rfl rfl rfl (fun _ => ?_) (fun _ => ?_)
    | refine AC_cond rfl (fun _ => ?_) (fun _ => ?_))
  refine ends_wk rfl rfl (.agg ?_)
  repeat' (first | exact Wks.nil | refine Wks.cons (Wk.refl _) ?_ | refine Wks.cons (Wk.full _ _ _) ?_ | refine Wks.cons (Wk.nilF _ _ _) ?_)

theorem decl_spec (b : Bl) : FC Try.prog 41 [aB b] (declV b) := by
  refine FC_intro hty Try.func41 rfl rfl rfl fun w0 => ?_
  repeat' (first
    | refine WL_p hty rfl rfl ?_
    | refine WL_nil ?_
    | refine AC_seq ?_
    | refine AC_region ?_
    | refine AC_block ?_
    | refine AC_skip ?_
    | refine AC_condT rfl ?_
    | refine AC_condF rfl ?_
    | refine AC_exit ?_
    | refine AC_ret ?_
    | refine WL_ung rfl rfl ?_
    | refine WL_offT rfl rfl rfl ?_
    | refine WL_offF rfl rfl rfl ?_
    | refine WL_offU rfl rfl rfl ?_
    | refine WL_m rfl (m_idxN hty rfl rfl rfl (by assumption) rfl) ?_
    | refine ends_bool rfl ?_
    | refine WL_cmp rfl rfl rfl rfl (fun _ => ?_) (fun _ => ?_)
    | refine AC_cond rfl (fun _ => ?_) (fun _ => ?_))
  exact ends_is rfl rfl rfl

theorem declN_spec : FC Try.prog 41 [.agg [.lst 6 [[.lst 7 [] true, .int .i64 0, .bool false, .int .i64 0, .int .i64 0, .lst 3 [] true]] true,
    .lst 6 [[.int .i64 0, .lst 7 [] true, .lst 3 [] true, .int .i64 0, .int .i64 0, .lst 3 [] true], [.int .i64 0, .lst 7 [cA recA] true, .lst 3 [] true, .int .i64 0, .int .i64 0, .lst 3 [] true]] true, .int .i64 0]] (declV natB) := by
  refine (decl_spec natB).args (.cons (.agg (.cons (.rowsF (.cons ?_ .nil)) (.cons (.rowsF (.cons ?_ (.cons ?_ .nil))) (.cons (.refl _) .nil)))) .nil)
  · repeat' (first | exact Wks.nil | refine Wks.cons (Wk.refl _) ?_ | refine Wks.cons (Wk.full _ _ _) ?_ | refine Wks.cons (Wk.nilF _ _ _) ?_)
  · repeat' (first | exact Wks.nil | refine Wks.cons (Wk.refl _) ?_ | refine Wks.cons (Wk.full _ _ _) ?_ | refine Wks.cons (Wk.nilF _ _ _) ?_)
  · repeat' (first | exact Wks.nil | refine Wks.cons (Wk.refl _) ?_ | refine Wks.cons (Wk.full _ _ _) ?_ | refine Wks.cons (Wk.nilF _ _ _) ?_)

theorem nat_spec : FC Try.prog 32 [] (declV natB) := by
  refine FC_intro hty Try.func32 rfl rfl rfl fun w0 => ?_
  repeat' (first
    | refine WL_call 0 rfl rec0_spec rfl rfl rfl ?_
    | refine WL_call 0 rfl declN_spec rfl rfl rfl ?_
    | refine WL_p hty rfl rfl ?_
    | refine WL_nil ?_
    | refine AC_seq ?_
    | refine AC_region ?_
    | refine AC_block ?_
    | refine AC_skip ?_
    | refine AC_condT rfl ?_
    | refine AC_condF rfl ?_
    | refine AC_exit ?_
    | refine AC_ret ?_
    | refine WL_ung rfl rfl ?_
    | refine WL_offT rfl rfl rfl ?_
    | refine WL_offF rfl rfl rfl ?_
    | refine WL_offU rfl rfl rfl ?_
    | refine WL_m rfl (m_idxN hty rfl rfl rfl (by assumption) rfl) ?_
    | refine ends_bool rfl ?_
    | refine WL_cmp rfl rfl rfl rfl (fun _ => ?_) (fun _ => ?_)
    | refine AC_cond rfl (fun _ => ?_) (fun _ => ?_))
  exact ends_is rfl rfl rfl

end Go.Proofs.Ytgjoeoojplbhpaa
