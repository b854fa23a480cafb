/-
  RuleStillUptoSaid: whatever comes in, within the bulk of its row, porismlaw14.RuleStill answers true, and what came in reads behind the call as before.
-/
import Derived.Test.YtlonpgdnmngnmaaGreatLStill
import Derived.Test.YtlonpgdnmngnmaaGreatGD
namespace Go.Proofs.YtlonpgdnmngnmaaGreat
set_option linter.unusedSimpArgs false
set_option linter.unusedVariables false
open Go.Aw Go.RowKit Go.ChangeShapes Go.WideShapes

theorem own : ownKnob Tryz.prog.godebug = none := by kernel_rfl

set_option maxRecDepth 100000 in
theorem ruleStill_contract (H : Type) (enc : TypeId × Value → H) (W : World) (base : Nat) (args : Array Value) (ds gs : List (DataW H)) (before : List MemPlace)
    (hval : ∀ (j : Nat) t v, Tryz.f3.params[j]? = some t → args[j]? = some v → Value.okWide Tryz.prog W .any base t v)
    (hW : DataW.Whole enc Tryz.prog Tryz.f3.params.toList Rows.ruleStillSpec.vars false W args.toList ds gs before) (hk : Rows.uptoSmall H (ds ++ gs) = true) :
    Calls Tryz.prog 3 args W fun e W' => ∃ v, e = .returned v ∧ Rows.ruleStillSpec.post enc Tryz.prog Tryz.f3 false true false false W args v W' := by
  have hW' := hW
  obtain ⟨p, q, hA0, hV, rfl, hfz, hnd⟩ := hW
  have hA : DataW.TrodAll enc Tryz.prog W 0 (fun _ => true) true Tryz.f3.params.toList args.toList ds p := hA0
  rw [Tryz.params3] at hA hval
  obtain ⟨v0, vs0, d0, ds0, p0, q0, hargs, rfl, rfl, h0, r0⟩ := trodAll_cons hA
  obtain ⟨v1, vs1, d1, ds1, p1, q1, rfl, rfl, rfl, h1, r1⟩ := trodAll_cons r0
  obtain ⟨rfl, rfl, rfl⟩ := trodAll_nil r1
  obtain rfl : args = #[v0, v1] := by cases args; simp_all
  obtain ⟨rfl, rfl⟩ := trodVars_none hV
  obtain ⟨n0, h0⟩ := h0
  obtain ⟨c0, rfl⟩ := arg_struct Tryz.underlying24 (hval 0 _ _ rfl rfl)
  obtain ⟨x0, k0, s0⟩ := read_tm _ _ _ _ h0
  obtain ⟨n1, h1⟩ := h1
  obtain ⟨_, _, _, rfl⟩ := okWide_slice Tryz.underlying25 (hval 1 _ _ rfl rfl)
  obtain ⟨x1, k1, s1⟩ := read_ens h1
  have hk : Rows.uptoBulkAll [d0, d1] ≤ 1048576 := of_decide_eq_true hk
  simp only [Rows.uptoBulkAll] at hk
  have b0 := one_bulk d0
  have b1 := one_bulk d1
  refine law_calls laid (still_spec x0 x1 (by first | omega | (simp only [sizes]; omega))).pc hW' rfl (fun j hj => ?_) rfl (by decide) rfl rfl rfl (tb := 4) (by kernel_rfl) Tryz.underlying4
  match j, hj with
  | 0, _ => exact arg_agg k0
  | 1, _ => exact arg_one k1

set_option maxRecDepth 100000 in
theorem ruleStill_lifted (os : Os) (started : os.Started) (H : Type) (enc : TypeId × Value → H) (F : Stop.Interp) :
    ReturnsInHanded {} Tryz.checked os 3 .any ((Rows.OpenSpec.upto Rows.ruleStillSpec).pre6 enc Tryz.prog Tryz.f3 Rows.ruleStillUptoRow.domain false) (((Rows.OpenSpec.upto Rows.ruleStillSpec).at F).post enc Tryz.prog Tryz.f3 false true false false) := by
  refine returnsInHanded_of_cond (C := Tryz.checked) (s := Rows.OpenSpec.upto Rows.ruleStillSpec) (k := Rows.uptoSmall) rfl own started (by kernel_rfl) Tryz.func3
    (OpenSpec.witness (enc := enc) (C := Tryz.checked) (s := Rows.OpenSpec.upto Rows.ruleStillSpec) (k := Rows.uptoSmall) rfl false
      ⟨#[], #[.agg #[.int .i64 0, .int .i64 0, .slice none 0 0], .slice none 0 0], []⟩ 8 (by kernel_rfl) (by kernel_rfl) (by kernel_rfl)
      (x := ([.agg [.lit (.int .i64 0), .lit (.int .i64 0), .nil], .nil], [], [])) (by kernel_rfl) rfl (by kernel_rfl)) ?_
  intro W base args ds gs before hval hW _ hk _
  exact ruleStill_contract H enc W base args ds gs before hval hW hk

/-- ████ THE STATEMENT ████ -/
theorem ruleStill_holds : Rows.RuleStillUptoSaid :=
  OpenClaim.holds_of_cond 3 Tryz.f3 rfl rfl rfl rfl rfl rfl rfl ⟨rfl, rfl, rfl, rfl, rfl⟩ rfl rfl rfl rfl rfl (by kernel_rfl) Tryz.func3 (by kernel_rfl)
    (of_decide_eq_true (by kernel_rfl)) (by unfold Func.isWrapper; first | (rw [if_pos (by decide +kernel)]; kernel_rfl) | (rw [if_neg (by decide +kernel)]; exact ⟨rfl, rfl⟩))
    (fun os started H enc _ F => ruleStill_lifted os started H enc F)
end Go.Proofs.YtlonpgdnmngnmaaGreat
#print axioms Go.Proofs.YtlonpgdnmngnmaaGreat.ruleStill_holds
