/-
  For every number, index and letter the law KindExact returns true. No condition.
-/
import Derived.Test.YtfjkojebpbnecaaRows
import Derived.Test.YtfjkojebpbnecaaKind
import Derived.Below
import Derived.WalkKit
import Derived.ProofKit
import Derived.OpenShut
namespace Go.Proofs.Ytfjkojebpbnecaa.kindExact
open Go.Proofs.YtfjkojebpbnecaaW.PrintWords Go.Proofs.YtfjkojebpbnecaaW.PrintLast Go.Proofs.YtfjkojebpbnecaaW.PrintMore
open Go.ChangeShapes Go.WideShapes Go.ChangeAt Go.RowKit
set_option linter.unusedVariables false      -- a walk need not use every 'w<i>' (that an integer argument fits its kind)

theorem own : ownKnob Try.prog.godebug = none := by kernel_rfl


def stI (l : Int) : Nat → Int × Bool
  | 0 => (0, false)
  | k + 1 => if lettI (k + 1) = l then ((k : Int) + 1, true) else stI l k
theorem st_of (l : Int) (w2 : (Lit.int .u8 l).wf = true) : ofV l = .tuple #[.int .i64 (stI l 13).1, .bool (stI l 13).2] := by
  have hb := bounds_u8 w2
  have h : ∀ u : Fin 256, ofB (u.val : Int) < 0 ∧ (stI (u.val : Int) 13) = (0, false) ∨ 0 ≤ ofB (u.val : Int) ∧ (stI (u.val : Int) 13) = (1 + ofB (u.val : Int), true) := by decide +kernel
  have hu := h ⟨l.toNat, by omega⟩
  have e : ((⟨l.toNat, by omega⟩ : Fin 256).val : Int) = l := by simp; omega
  rw [e] at hu
  unfold ofV
  rcases hu with ⟨h1, h2⟩ | ⟨h1, h2⟩
  · rw [if_pos h1, h2]
  · rw [if_neg (by omega), h2]
theorem st_yes (l : Int) (k : Nat) (h : lettI ((k : Int) + 1) = l) : stI l (k + 1) = ((k : Int) + 1, true) := by simp [stI, h]
theorem st_no (l : Int) (k : Nat) (h : ¬ lettI ((k : Int) + 1) = l) : stI l (k + 1) = stI l k := by simp [stI, h]
theorem canon_or (a : Int) : (if (a == 2) = true then true else if (a == 4) = true then true else if (a == 5) = true then true else if (a == 7) = true then true else if (a == 8) = true then true else if (a == 11) = true then true else a == 12) = canonB a := by
  unfold canonB
  cases a == 2 <;> cases a == 4 <;> cases a == 5 <;> cases a == 7 <;> cases a == 8 <;> cases a == 11 <;> rfl

set_option maxHeartbeats 1000000 in
theorem walk (a0 : Int) (a1 : Int) (a2 : Int) (w0 : (Lit.int .i64 a0).wf = true) (w1 : (Lit.int .i64 a1).wf = true) (w2 : (Lit.int .u8 a2).wf = true) (w : World) :
    Calls Try.prog 3 #[.int .i64 a0, .int .i64 a1, .int .u8 a2] w fun e w' => e = .returned (.bool true) ∧ Below w.heap.size w w' := by
  have hof := of_any a2
  rw [st_of a2 w2] at hof
  have HO := Lib.hid hof
  have hlt := ofB_lt a2
  have HL := Lib.hid hlt
  have hb := Below.refl w.heap.size w
  clear hof hlt w0 w1 w2
  go_enter Try.func3, Try.ntmps3
  go_wp2_with (first | (go_at_call 7; refine (HO.out _ HL.out).mono ?_; rintro e w1 ⟨rfl, rfl⟩) | (go_at_call 9; refine (kids_any _ _).mono ?_; rintro e w1 ⟨rfl, h1⟩; replace hb := below_step hb h1; clear h1) | (go_at_call 10; refine (rkids_any _ _).mono ?_; rintro e w1 ⟨rfl, h1⟩; replace hb := below_step hb h1; clear h1) | (go_at_call 8; refine (rletter_any _ _).mono ?_; rintro e w1 ⟨rfl, h1⟩; replace hb := below_step hb h1; clear h1) | (go_at_call 11; refine (binds_any _ _ _).mono ?_; rintro e w1 ⟨rfl, h1⟩; replace hb := below_step hb h1; clear h1) | (go_at_call 12; refine (rbinds_any _ _ _).mono ?_; rintro e w1 ⟨rfl, h1⟩; replace hb := below_step hb h1; clear h1) | (go_at_call 13; refine (leaf_any _ _).mono ?_; rintro e w1 ⟨rfl, h1⟩; replace hb := below_step hb h1; clear h1) | (go_at_call 14; refine (letter_any _ _).mono ?_; rintro e w1 ⟨rfl, h1⟩; replace hb := below_step hb h1; clear h1) | (go_at_call 15; refine (canon_any _ _).mono ?_; rintro e w1 ⟨rfl, h1⟩; replace hb := below_step hb h1; clear h1) | (go_at_call 16; refine (wakes_any _).mono ?_; rintro e w1 ⟨rfl, h1⟩; replace hb := below_step hb h1; clear h1))
  go_loopw [9, 10, 11] (fun a b c wr => ∃ k : Nat, k ≤ 13 ∧ c = .int .i64 ((k : Int) + 1) ∧ a = .int .i64 (stI a2 k).1 ∧ b = .bool (stI a2 k).2 ∧ Below w.heap.size w wr) (fun _ _ c _ => 14 - (intOf c).toNat)
  case atStart => exact ⟨0, by omega, rfl, rfl, rfl, hb⟩
  case round =>
    clear hb
    obtain ⟨k, hk, rfl, rfl, rfl, hb⟩ := hrel
    by_cases hlt : k < 13
    · by_cases he : lettI ((k : Int) + 1) = a2
      · have heb : (lettI ((k : Int) + 1) == a2) = true := by simp [he]
        have HE := Lib.hid he
        clear he
        go_wp2_with (first | (go_at_call 9; refine (kids_any _ _).mono ?_; rintro e w1 ⟨rfl, h1⟩; replace hb := below_step hb h1; clear h1) | (go_at_call 10; refine (rkids_any _ _).mono ?_; rintro e w1 ⟨rfl, h1⟩; replace hb := below_step hb h1; clear h1) | (go_at_call 8; refine (rletter_any _ _).mono ?_; rintro e w1 ⟨rfl, h1⟩; replace hb := below_step hb h1; clear h1) | (go_at_call 11; refine (binds_any _ _ _).mono ?_; rintro e w1 ⟨rfl, h1⟩; replace hb := below_step hb h1; clear h1) | (go_at_call 12; refine (rbinds_any _ _ _).mono ?_; rintro e w1 ⟨rfl, h1⟩; replace hb := below_step hb h1; clear h1) | (go_at_call 13; refine (leaf_any _ _).mono ?_; rintro e w1 ⟨rfl, h1⟩; replace hb := below_step hb h1; clear h1) | (go_at_call 14; refine (letter_any _ _).mono ?_; rintro e w1 ⟨rfl, h1⟩; replace hb := below_step hb h1; clear h1) | (go_at_call 15; refine (canon_any _ _).mono ?_; rintro e w1 ⟨rfl, h1⟩; replace hb := below_step hb h1; clear h1) | (go_at_call 16; refine (wakes_any _).mono ?_; rintro e w1 ⟨rfl, h1⟩; replace hb := below_step hb h1; clear h1))
        go_roundw
        case rel => exact ⟨k + 1, by omega, by go_num, by rw [st_yes _ _ HE.out], by rw [st_yes _ _ HE.out], hb⟩
        case measure => simp [intOf]; omega
      · have heb : (lettI ((k : Int) + 1) == a2) = false := by simp [he]
        have HE := Lib.hid he
        clear he
        go_wp2_with (first | (go_at_call 9; refine (kids_any _ _).mono ?_; rintro e w1 ⟨rfl, h1⟩; replace hb := below_step hb h1; clear h1) | (go_at_call 10; refine (rkids_any _ _).mono ?_; rintro e w1 ⟨rfl, h1⟩; replace hb := below_step hb h1; clear h1) | (go_at_call 8; refine (rletter_any _ _).mono ?_; rintro e w1 ⟨rfl, h1⟩; replace hb := below_step hb h1; clear h1) | (go_at_call 11; refine (binds_any _ _ _).mono ?_; rintro e w1 ⟨rfl, h1⟩; replace hb := below_step hb h1; clear h1) | (go_at_call 12; refine (rbinds_any _ _ _).mono ?_; rintro e w1 ⟨rfl, h1⟩; replace hb := below_step hb h1; clear h1) | (go_at_call 13; refine (leaf_any _ _).mono ?_; rintro e w1 ⟨rfl, h1⟩; replace hb := below_step hb h1; clear h1) | (go_at_call 14; refine (letter_any _ _).mono ?_; rintro e w1 ⟨rfl, h1⟩; replace hb := below_step hb h1; clear h1) | (go_at_call 15; refine (canon_any _ _).mono ?_; rintro e w1 ⟨rfl, h1⟩; replace hb := below_step hb h1; clear h1) | (go_at_call 16; refine (wakes_any _).mono ?_; rintro e w1 ⟨rfl, h1⟩; replace hb := below_step hb h1; clear h1))
        go_roundw
        case rel => exact ⟨k + 1, by omega, by go_num, by rw [st_no _ _ HE.out], by rw [st_no _ _ HE.out], hb⟩
        case measure => simp [intOf]; omega
    · obtain rfl : k = 13 := by omega
      clear hlt hk
      rcases kind_cases a0 with h | h | h | h | h | h | h | h | h | h | h | h | h | h | h
      · have n2 : (a0 == 2) = false := by rw [beq_eq_false_iff_ne]; omega
        have n4 : (a0 == 4) = false := by rw [beq_eq_false_iff_ne]; omega
        have n5 : (a0 == 5) = false := by rw [beq_eq_false_iff_ne]; omega
        have n7 : (a0 == 7) = false := by rw [beq_eq_false_iff_ne]; omega
        have n8 : (a0 == 8) = false := by rw [beq_eq_false_iff_ne]; omega
        have n11 : (a0 == 11) = false := by rw [beq_eq_false_iff_ne]; omega
        have n12 : (a0 == 12) = false := by rw [beq_eq_false_iff_ne]; omega
        have hc : canonB a0 = false := by simp [canonB, *]
        clear h
        go_wp2_with (first | (go_at_call 9; refine (kids_any _ _).mono ?_; rintro e w1 ⟨rfl, h1⟩; replace hb := below_step hb h1; clear h1) | (go_at_call 10; refine (rkids_any _ _).mono ?_; rintro e w1 ⟨rfl, h1⟩; replace hb := below_step hb h1; clear h1) | (go_at_call 8; refine (rletter_any _ _).mono ?_; rintro e w1 ⟨rfl, h1⟩; replace hb := below_step hb h1; clear h1) | (go_at_call 11; refine (binds_any _ _ _).mono ?_; rintro e w1 ⟨rfl, h1⟩; replace hb := below_step hb h1; clear h1) | (go_at_call 12; refine (rbinds_any _ _ _).mono ?_; rintro e w1 ⟨rfl, h1⟩; replace hb := below_step hb h1; clear h1) | (go_at_call 13; refine (leaf_any _ _).mono ?_; rintro e w1 ⟨rfl, h1⟩; replace hb := below_step hb h1; clear h1) | (go_at_call 14; refine (letter_any _ _).mono ?_; rintro e w1 ⟨rfl, h1⟩; replace hb := below_step hb h1; clear h1) | (go_at_call 15; refine (canon_any _ _).mono ?_; rintro e w1 ⟨rfl, h1⟩; replace hb := below_step hb h1; clear h1) | (go_at_call 16; refine (wakes_any _).mono ?_; rintro e w1 ⟨rfl, h1⟩; replace hb := below_step hb h1; clear h1))
        go_ret
        exact ⟨rfl, hb⟩
      · have n2 : (a0 == 2) = false := by rw [beq_eq_false_iff_ne]; omega
        have n4 : (a0 == 4) = false := by rw [beq_eq_false_iff_ne]; omega
        have n5 : (a0 == 5) = false := by rw [beq_eq_false_iff_ne]; omega
        have n7 : (a0 == 7) = false := by rw [beq_eq_false_iff_ne]; omega
        have n8 : (a0 == 8) = false := by rw [beq_eq_false_iff_ne]; omega
        have n11 : (a0 == 11) = false := by rw [beq_eq_false_iff_ne]; omega
        have n12 : (a0 == 12) = false := by rw [beq_eq_false_iff_ne]; omega
        have hc : canonB a0 = false := by simp [canonB, *]
        clear h
        go_wp2_with (first | (go_at_call 9; refine (kids_any _ _).mono ?_; rintro e w1 ⟨rfl, h1⟩; replace hb := below_step hb h1; clear h1) | (go_at_call 10; refine (rkids_any _ _).mono ?_; rintro e w1 ⟨rfl, h1⟩; replace hb := below_step hb h1; clear h1) | (go_at_call 8; refine (rletter_any _ _).mono ?_; rintro e w1 ⟨rfl, h1⟩; replace hb := below_step hb h1; clear h1) | (go_at_call 11; refine (binds_any _ _ _).mono ?_; rintro e w1 ⟨rfl, h1⟩; replace hb := below_step hb h1; clear h1) | (go_at_call 12; refine (rbinds_any _ _ _).mono ?_; rintro e w1 ⟨rfl, h1⟩; replace hb := below_step hb h1; clear h1) | (go_at_call 13; refine (leaf_any _ _).mono ?_; rintro e w1 ⟨rfl, h1⟩; replace hb := below_step hb h1; clear h1) | (go_at_call 14; refine (letter_any _ _).mono ?_; rintro e w1 ⟨rfl, h1⟩; replace hb := below_step hb h1; clear h1) | (go_at_call 15; refine (canon_any _ _).mono ?_; rintro e w1 ⟨rfl, h1⟩; replace hb := below_step hb h1; clear h1) | (go_at_call 16; refine (wakes_any _).mono ?_; rintro e w1 ⟨rfl, h1⟩; replace hb := below_step hb h1; clear h1))
        go_ret
        exact ⟨rfl, hb⟩
      all_goals
        subst h
        go_wp2_with (first | (go_at_call 9; refine (kids_any _ _).mono ?_; rintro e w1 ⟨rfl, h1⟩; replace hb := below_step hb h1; clear h1) | (go_at_call 10; refine (rkids_any _ _).mono ?_; rintro e w1 ⟨rfl, h1⟩; replace hb := below_step hb h1; clear h1) | (go_at_call 8; refine (rletter_any _ _).mono ?_; rintro e w1 ⟨rfl, h1⟩; replace hb := below_step hb h1; clear h1) | (go_at_call 11; refine (binds_any _ _ _).mono ?_; rintro e w1 ⟨rfl, h1⟩; replace hb := below_step hb h1; clear h1) | (go_at_call 12; refine (rbinds_any _ _ _).mono ?_; rintro e w1 ⟨rfl, h1⟩; replace hb := below_step hb h1; clear h1) | (go_at_call 13; refine (leaf_any _ _).mono ?_; rintro e w1 ⟨rfl, h1⟩; replace hb := below_step hb h1; clear h1) | (go_at_call 14; refine (letter_any _ _).mono ?_; rintro e w1 ⟨rfl, h1⟩; replace hb := below_step hb h1; clear h1) | (go_at_call 15; refine (canon_any _ _).mono ?_; rintro e w1 ⟨rfl, h1⟩; replace hb := below_step hb h1; clear h1) | (go_at_call 16; refine (wakes_any _).mono ?_; rintro e w1 ⟨rfl, h1⟩; replace hb := below_step hb h1; clear h1))
        go_ret
        exact ⟨rfl, hb⟩

/-! ### THE ROW's STEP: WRITTEN OUT: LEAVE IT -/
set_option maxRecDepth 100000 in
theorem lifted (os : Os) (started : os.Started) (H : Type) (enc : TypeId × Value → H) :
    ReturnsInHanded {} Try.checked os 3 .any (Rows.kindExactSpec.pre6 enc Try.prog Try.f3 Rows.kindExactRow.domain false) (Rows.kindExactSpec.post enc Try.prog Try.f3 false true false false) := by
  refine returnsInHanded_of_change (C := Try.checked) own started (by kernel_rfl) Try.func3
    (ChangeSpec.witness6 (enc := enc) (C := Try.checked) false ⟨#[], #[.int .i64 0, .int .i64 0, .int .u8 0], []⟩ 8 (by kernel_rfl) (by kernel_rfl) (by kernel_rfl) (by kernel_rfl)) ?_
  intro W base args ds gs before hval0 hW hcnd _
  have hval : ∀ (j : Nat) t v, Try.f3.params[j]? = some t → args[j]? = some v → Value.okWide Try.prog W .any base t v := hval0
  have hW' := hW
  obtain ⟨p, q, hA0, hV, rfl, hfz, hnd⟩ := hW
  have hA : DataW.TrodAll enc Try.prog W 0 (fun _ => true) true Try.f3.params.toList args.toList ds p := hA0
  rw [Try.params3] at hA hval
  obtain ⟨v0, vs0, d0, ds0, p0, q0, hargs, rfl, rfl, h0, r0⟩ := trodAll_cons hA
  obtain ⟨v1, vs1, d1, ds1, p1, q1, rfl, rfl, rfl, h1, r1⟩ := trodAll_cons r0
  obtain ⟨v2, vs2, d2, ds2, p2, q2, rfl, rfl, rfl, h2, r2⟩ := trodAll_cons r1
  obtain ⟨rfl, rfl, rfl⟩ := trodAll_nil r2
  obtain rfl : args = #[v0, v1, v2] := by cases args; simp_all
  obtain ⟨rfl, rfl⟩ := trodVars_none hV
  obtain ⟨a0, rfl, rfl, rfl, w0⟩ := open_int Try.underlying3 (hval 0 3 v0 rfl rfl) h0
  obtain ⟨a1, rfl, rfl, rfl, w1⟩ := open_int Try.underlying3 (hval 1 3 v1 rfl rfl) h1
  obtain ⟨a2, rfl, rfl, rfl, w2⟩ := open_int Try.underlying5 (hval 2 5 v2 rfl rfl) h2
  clear hA0 hval0
  simp only [List.append_nil] at hW'
  refine (walk a0 a1 a2 w0 w1 w2 W).mono fun e W' ⟨he, hg⟩ => ?_
  subst he
  exact ⟨_, rfl, _, _, _, [], _, [], hW', trodAll_mk1 (shut_bool Try.underlying4 _), (trodAll_cons_mk (shut_int Try.underlying3 w0) (trodAll_cons_mk (shut_int Try.underlying3 w1) (trodAll_cons_mk (shut_int Try.underlying5 w2) trodAll_mk0))), rfl, hg.frame _, fun h => by cases h⟩

theorem over : Rows.kindExactRow.holds Try.pinned (OpenSpec.ofChange Rows.kindExactSpec) :=
  OpenClaim.holds_of_wide 3 Try.f3 rfl rfl rfl rfl rfl rfl rfl ⟨rfl, rfl, rfl, rfl, rfl⟩ rfl rfl rfl rfl rfl (by kernel_rfl) Try.func3 (by kernel_rfl)
    (of_decide_eq_true (by kernel_rfl)) (by unfold Func.isWrapper; first | (rw [if_pos (by decide +kernel)]; kernel_rfl) | (rw [if_neg (by decide +kernel)]; exact ⟨rfl, rfl⟩))
    (fun os started H enc _ => lifted os started H enc)

/-- ████ THE STATEMENT ████ -/
theorem proved : Rows.KindExactSaid :=
  over
end Go.Proofs.Ytfjkojebpbnecaa.kindExact
namespace Go.Proofs.Ytfjkojebpbnecaa
theorem kindExact_holds : Rows.KindExactSaid := kindExact.proved
end Go.Proofs.Ytfjkojebpbnecaa
#print axioms Go.Proofs.Ytfjkojebpbnecaa.kindExact_holds
