/-
  For every two numbers the law KindLetters returns true. No condition.
-/
import Derived.Test.YtfjkojebpbnecaaRows
import Derived.Test.YtfjkojebpbnecaaKind
import Derived.Below
import Derived.WalkKit
import Derived.ProofKit
import Derived.OpenShut
namespace Go.Proofs.Ytfjkojebpbnecaa.kindLetters
open Go.Proofs.YtfjkojebpbnecaaW.PrintWords Go.Proofs.YtfjkojebpbnecaaW.PrintLast Go.Proofs.YtfjkojebpbnecaaW.PrintMore
open Go.ChangeShapes Go.WideShapes Go.ChangeAt Go.RowKit
set_option linter.unusedVariables false      -- a walk need not use every 'w<i>' (that an integer argument fits its kind)

theorem own : ownKnob Try.prog.godebug = none := by kernel_rfl


theorem of_letter (a : Int) (h : 1 ≤ a ∧ a ≤ 13) : ofV (lettI a) = .tuple #[.int .i64 a, .bool true] := by
  rcases kind_cases a with h | h | h | h | h | h | h | h | h | h | h | h | h | h | h
  · omega
  · omega
  all_goals subst h; rfl
theorem lett_inj (a b : Int) (ha : 1 ≤ a ∧ a ≤ 13) (hb : 1 ≤ b ∧ b ≤ 13) (h : lettI a = lettI b) : a = b := by
  have ea := of_letter a ha
  rw [h, of_letter b hb] at ea
  injection ea with ea
  injection ea with ea
  injection ea with ea
  injection ea with ea
  omega
theorem kids_neg (a : Int) : kidsI a < 0 ↔ ¬ (1 ≤ a ∧ a ≤ 13) := by
  unfold kidsI; repeat' split
  all_goals omega
theorem out_let (a : Int) (h : ¬ (1 ≤ a ∧ a ≤ 13)) : lettI a = 0 ∧ kidsI a = -1 ∧ canonB a = false ∧ bindsI a 1 = 0 := by
  refine ⟨?_, ?_, ?_, ?_⟩
  · unfold lettI
    rw [if_neg (by omega), if_neg (by omega), if_neg (by omega), if_neg (by omega), if_neg (by omega), if_neg (by omega), if_neg (by omega), if_neg (by omega), if_neg (by omega), if_neg (by omega), if_neg (by omega), if_neg (by omega), if_neg (by omega)]
  · unfold kidsI; repeat' split
    all_goals omega
  · rw [Bool.eq_false_iff]
    intro hc
    simp only [canonB, Bool.or_eq_true, beq_iff_eq] at hc
    omega
  · unfold bindsI; rw [if_neg (by omega)]

set_option maxHeartbeats 1000000 in
theorem walk_out (a0 : Int) (a1 : Int) (h : ¬ (1 ≤ a0 ∧ a0 ≤ 13)) (w : World) :
    Calls Try.prog 4 #[.int .i64 a0, .int .i64 a1] w fun e w' => e = .returned (.bool true) ∧ Below w.heap.size w w' := by
  obtain ⟨e1, e2, e3, e4⟩ := out_let a0 h
  have c1 := fun w => letter_any a0 w
  have c2 := fun w => of_any 0 w (ofB_lt 0)
  have c3 := fun w => kids_any a0 w
  have c4 := fun w => leaf_any a0 w
  have c5 := fun w => canon_any a0 w
  have c6 := fun w => binds_any a0 1 w
  rw [e1] at c1
  rw [show ofV 0 = .tuple #[.int .i64 0, .bool false] from rfl] at c2
  rw [e2] at c3 c4
  rw [e3] at c5
  rw [e4] at c6
  have C1 := Lib.hid c1
  have C2 := Lib.hid c2
  have C3 := Lib.hid c3
  have C4 := Lib.hid c4
  have C5 := Lib.hid c5
  have C6 := Lib.hid c6
  clear e1 e2 e3 e4 c1 c2 c3 c4 c5 c6 h
  have hb := Below.refl w.heap.size w
  go_enter Try.func4, Try.ntmps4
  go_wp2_with fail
  refine (C1.out _).mono ?_
  rintro e w1 ⟨rfl, h1⟩
  replace hb := below_step hb h1
  clear h1
  go_wp2_with (first | (go_at_call 7; refine (C2.out _).mono ?_; rintro e w1 ⟨rfl, rfl⟩) | (go_at_call 14; refine (letter_any _ _).mono ?_; rintro e w1 ⟨rfl, h1⟩; replace hb := below_step hb h1; clear h1) | (go_at_call 9; refine (C3.out _).mono ?_; rintro e w1 ⟨rfl, h1⟩; replace hb := below_step hb h1; clear h1) | (go_at_call 13; refine (C4.out _).mono ?_; rintro e w1 ⟨rfl, h1⟩; replace hb := below_step hb h1; clear h1) | (go_at_call 15; refine (C5.out _).mono ?_; rintro e w1 ⟨rfl, h1⟩; replace hb := below_step hb h1; clear h1) | (go_at_call 11; refine (C6.out _).mono ?_; rintro e w1 ⟨rfl, h1⟩; replace hb := below_step hb h1; clear h1) | (go_at_call 16; refine (wakes_any _).mono ?_; rintro e w1 ⟨rfl, h1⟩; replace hb := below_step hb h1; clear h1))
  go_ret
  exact ⟨rfl, hb⟩

set_option maxHeartbeats 1000000 in
theorem walk_in (a0 : Int) (a1 : Int) (h : 1 ≤ a0 ∧ a0 ≤ 13) (w : World) :
    Calls Try.prog 4 #[.int .i64 a0, .int .i64 a1] w fun e w' => e = .returned (.bool true) ∧ Below w.heap.size w w' := by
  have c2 := fun w => of_any (lettI a0) w (ofB_lt _)
  rw [of_letter a0 h] at c2
  have C2 := Lib.hid c2
  clear c2
  have hk : ¬ kidsI a0 < 0 := by rw [kids_neg]; omega
  have hb := Below.refl w.heap.size w
  by_cases h1 : kidsI a1 < 0
  · clear h
    go_enter Try.func4, Try.ntmps4
    go_wp2_with (first | (go_at_call 7; refine (C2.out _).mono ?_; rintro e w1 ⟨rfl, rfl⟩) | (go_at_call 9; refine (kids_any _ _).mono ?_; rintro e w1 ⟨rfl, h1⟩; replace hb := below_step hb h1; clear h1) | (go_at_call 10; refine (rkids_any _ _).mono ?_; rintro e w1 ⟨rfl, h1⟩; replace hb := below_step hb h1; clear h1) | (go_at_call 8; refine (rletter_any _ _).mono ?_; rintro e w1 ⟨rfl, h1⟩; replace hb := below_step hb h1; clear h1) | (go_at_call 11; refine (binds_any _ _ _).mono ?_; rintro e w1 ⟨rfl, h1⟩; replace hb := below_step hb h1; clear h1) | (go_at_call 12; refine (rbinds_any _ _ _).mono ?_; rintro e w1 ⟨rfl, h1⟩; replace hb := below_step hb h1; clear h1) | (go_at_call 13; refine (leaf_any _ _).mono ?_; rintro e w1 ⟨rfl, h1⟩; replace hb := below_step hb h1; clear h1) | (go_at_call 14; refine (letter_any _ _).mono ?_; rintro e w1 ⟨rfl, h1⟩; replace hb := below_step hb h1; clear h1) | (go_at_call 15; refine (canon_any _ _).mono ?_; rintro e w1 ⟨rfl, h1⟩; replace hb := below_step hb h1; clear h1) | (go_at_call 16; refine (wakes_any _).mono ?_; rintro e w1 ⟨rfl, h1⟩; replace hb := below_step hb h1; clear h1))
    go_ret
    exact ⟨rfl, hb⟩
  · have hi : 1 ≤ a1 ∧ a1 ≤ 13 := by have := kids_neg a1; omega
    by_cases e : a0 = a1
    · subst e
      clear h hi
      go_enter Try.func4, Try.ntmps4
      go_wp2_with (first | (go_at_call 7; refine (C2.out _).mono ?_; rintro e w1 ⟨rfl, rfl⟩) | (go_at_call 9; refine (kids_any _ _).mono ?_; rintro e w1 ⟨rfl, h1⟩; replace hb := below_step hb h1; clear h1) | (go_at_call 10; refine (rkids_any _ _).mono ?_; rintro e w1 ⟨rfl, h1⟩; replace hb := below_step hb h1; clear h1) | (go_at_call 8; refine (rletter_any _ _).mono ?_; rintro e w1 ⟨rfl, h1⟩; replace hb := below_step hb h1; clear h1) | (go_at_call 11; refine (binds_any _ _ _).mono ?_; rintro e w1 ⟨rfl, h1⟩; replace hb := below_step hb h1; clear h1) | (go_at_call 12; refine (rbinds_any _ _ _).mono ?_; rintro e w1 ⟨rfl, h1⟩; replace hb := below_step hb h1; clear h1) | (go_at_call 13; refine (leaf_any _ _).mono ?_; rintro e w1 ⟨rfl, h1⟩; replace hb := below_step hb h1; clear h1) | (go_at_call 14; refine (letter_any _ _).mono ?_; rintro e w1 ⟨rfl, h1⟩; replace hb := below_step hb h1; clear h1) | (go_at_call 15; refine (canon_any _ _).mono ?_; rintro e w1 ⟨rfl, h1⟩; replace hb := below_step hb h1; clear h1) | (go_at_call 16; refine (wakes_any _).mono ?_; rintro e w1 ⟨rfl, h1⟩; replace hb := below_step hb h1; clear h1))
      go_ret
      exact ⟨rfl, hb⟩
    · have e1 : (lettI a0 == lettI a1) = false := by rw [beq_eq_false_iff_ne]; exact fun x => e (lett_inj _ _ h hi x)
      have e2 : (a0 == a1) = false := by rw [beq_eq_false_iff_ne]; exact e
      clear h hi e
      go_enter Try.func4, Try.ntmps4
      go_wp2_with (first | (go_at_call 7; refine (C2.out _).mono ?_; rintro e w1 ⟨rfl, rfl⟩) | (go_at_call 9; refine (kids_any _ _).mono ?_; rintro e w1 ⟨rfl, h1⟩; replace hb := below_step hb h1; clear h1) | (go_at_call 10; refine (rkids_any _ _).mono ?_; rintro e w1 ⟨rfl, h1⟩; replace hb := below_step hb h1; clear h1) | (go_at_call 8; refine (rletter_any _ _).mono ?_; rintro e w1 ⟨rfl, h1⟩; replace hb := below_step hb h1; clear h1) | (go_at_call 11; refine (binds_any _ _ _).mono ?_; rintro e w1 ⟨rfl, h1⟩; replace hb := below_step hb h1; clear h1) | (go_at_call 12; refine (rbinds_any _ _ _).mono ?_; rintro e w1 ⟨rfl, h1⟩; replace hb := below_step hb h1; clear h1) | (go_at_call 13; refine (leaf_any _ _).mono ?_; rintro e w1 ⟨rfl, h1⟩; replace hb := below_step hb h1; clear h1) | (go_at_call 14; refine (letter_any _ _).mono ?_; rintro e w1 ⟨rfl, h1⟩; replace hb := below_step hb h1; clear h1) | (go_at_call 15; refine (canon_any _ _).mono ?_; rintro e w1 ⟨rfl, h1⟩; replace hb := below_step hb h1; clear h1) | (go_at_call 16; refine (wakes_any _).mono ?_; rintro e w1 ⟨rfl, h1⟩; replace hb := below_step hb h1; clear h1))
      go_ret
      exact ⟨rfl, hb⟩

theorem walk (a0 : Int) (a1 : Int) (w0 : (Lit.int .i64 a0).wf = true) (w1 : (Lit.int .i64 a1).wf = true) (w : World) :
    Calls Try.prog 4 #[.int .i64 a0, .int .i64 a1] w fun e w' => e = .returned (.bool true) ∧ Below w.heap.size w w' := by
  by_cases h : 1 ≤ a0 ∧ a0 ≤ 13
  · exact walk_in a0 a1 h w
  · exact walk_out a0 a1 h w

/-! ### THE ROW's STEP: WRITTEN OUT: LEAVE IT -/
set_option maxRecDepth 100000 in
theorem lifted (os : Os) (started : os.Started) (H : Type) (enc : TypeId × Value → H) :
    ReturnsInHanded {} Try.checked os 4 .any (Rows.kindLettersSpec.pre6 enc Try.prog Try.f4 Rows.kindLettersRow.domain false) (Rows.kindLettersSpec.post enc Try.prog Try.f4 false true false false) := by
  refine returnsInHanded_of_change (C := Try.checked) own started (by kernel_rfl) Try.func4
    (ChangeSpec.witness6 (enc := enc) (C := Try.checked) false ⟨#[], #[.int .i64 0, .int .i64 0], []⟩ 8 (by kernel_rfl) (by kernel_rfl) (by kernel_rfl) (by kernel_rfl)) ?_
  intro W base args ds gs before hval0 hW hcnd _
  have hval : ∀ (j : Nat) t v, Try.f4.params[j]? = some t → args[j]? = some v → Value.okWide Try.prog W .any base t v := hval0
  have hW' := hW
  obtain ⟨p, q, hA0, hV, rfl, hfz, hnd⟩ := hW
  have hA : DataW.TrodAll enc Try.prog W 0 (fun _ => true) true Try.f4.params.toList args.toList ds p := hA0
  rw [Try.params4] at hA hval
  obtain ⟨v0, vs0, d0, ds0, p0, q0, hargs, rfl, rfl, h0, r0⟩ := trodAll_cons hA
  obtain ⟨v1, vs1, d1, ds1, p1, q1, rfl, rfl, rfl, h1, r1⟩ := trodAll_cons r0
  obtain ⟨rfl, rfl, rfl⟩ := trodAll_nil r1
  obtain rfl : args = #[v0, v1] := by cases args; simp_all
  obtain ⟨rfl, rfl⟩ := trodVars_none hV
  obtain ⟨a0, rfl, rfl, rfl, w0⟩ := open_int Try.underlying3 (hval 0 3 v0 rfl rfl) h0
  obtain ⟨a1, rfl, rfl, rfl, w1⟩ := open_int Try.underlying3 (hval 1 3 v1 rfl rfl) h1
  clear hA0 hval0
  simp only [List.append_nil] at hW'
  refine (walk a0 a1 w0 w1 W).mono fun e W' ⟨he, hg⟩ => ?_
  subst he
  exact ⟨_, rfl, _, _, _, [], _, [], hW', trodAll_mk1 (shut_bool Try.underlying4 _), (trodAll_cons_mk (shut_int Try.underlying3 w0) (trodAll_cons_mk (shut_int Try.underlying3 w1) trodAll_mk0)), rfl, hg.frame _, fun h => by cases h⟩

theorem over : Rows.kindLettersRow.holds Try.pinned (OpenSpec.ofChange Rows.kindLettersSpec) :=
  OpenClaim.holds_of_wide 4 Try.f4 rfl rfl rfl rfl rfl rfl rfl ⟨rfl, rfl, rfl, rfl, rfl⟩ rfl rfl rfl rfl rfl (by kernel_rfl) Try.func4 (by kernel_rfl)
    (of_decide_eq_true (by kernel_rfl)) (by unfold Func.isWrapper; first | (rw [if_pos (by decide +kernel)]; kernel_rfl) | (rw [if_neg (by decide +kernel)]; exact ⟨rfl, rfl⟩))
    (fun os started H enc _ => lifted os started H enc)

/-- ████ THE STATEMENT ████ -/
theorem proved : Rows.KindLettersSaid :=
  over
end Go.Proofs.Ytfjkojebpbnecaa.kindLetters
namespace Go.Proofs.Ytfjkojebpbnecaa
theorem kindLetters_holds : Rows.KindLettersSaid := kindLetters.proved
end Go.Proofs.Ytfjkojebpbnecaa
#print axioms Go.Proofs.Ytfjkojebpbnecaa.kindLetters_holds
