/-
  For every kind and index the law KindBinds returns true. No condition.
-/
import Derived.Test.YtfjkojebpbnecaaRows
import Derived.Test.YtfjkojebpbnecaaKind
import Derived.Below
import Derived.WalkKit
import Derived.ProofKit
import Derived.OpenShut
namespace Go.Proofs.Ytfjkojebpbnecaa.kindBinds
open Go.Proofs.YtfjkojebpbnecaaW.PrintWords Go.Proofs.YtfjkojebpbnecaaW.PrintLast Go.Proofs.YtfjkojebpbnecaaW.PrintMore
open Go.ChangeShapes Go.WideShapes Go.ChangeAt Go.RowKit
set_option linter.unusedVariables false      -- a walk need not use every 'w<i>' (that an integer argument fits its kind)

theorem own : ownKnob Try.prog.godebug = none := by kernel_rfl


def nb (k : Nat) : Int := if k ≥ 7 then 3 else if k ≥ 5 then 2 else if k ≥ 4 then 1 else 0
theorem nb_step (k : Nat) (h : k < 13) : nb (k + 1) = nb k + bindsI ((k : Int) + 1) 1 := by
  have : ∀ j : Fin 13, nb (j.val + 1) = nb j.val + bindsI ((j.val : Int) + 1) 1 := by decide
  exact this ⟨k, h⟩
theorem binds_bit (a i : Int) : bindsI a i = 0 ∨ bindsI a i = 1 ∧ i = 1 ∧ kidsI a = 2 := by
  unfold bindsI
  by_cases h : i = 1 ∧ (a = 4 ∨ a = 5 ∨ a = 7)
  · rw [if_pos h]
    obtain ⟨h1, rfl | rfl | rfl⟩ := h <;> exact .inr ⟨rfl, h1, rfl⟩
  · rw [if_neg h]; exact .inl rfl
theorem binds_other (a i : Int) (h : i ≠ 1) : bindsI a i = 0 := by unfold bindsI; rw [if_neg (by omega)]
theorem binds_01 (a i : Int) : 0 ≤ bindsI a i ∧ bindsI a i ≤ 1 := by
  unfold bindsI; split <;> omega
theorem nb_bd (k : Nat) : 0 ≤ nb k ∧ nb k ≤ 3 := by unfold nb; repeat' split
                                                    all_goals omega

set_option maxHeartbeats 1000000 in
theorem walk (a0 : Int) (a1 : Int) (w0 : (Lit.int .i64 a0).wf = true) (w1 : (Lit.int .i64 a1).wf = true) (w : World) :
    Calls Try.prog 5 #[.int .i64 a0, .int .i64 a1] w fun e w' => e = .returned (.bool true) ∧ Below w.heap.size w w' := by
  have hb := Below.refl w.heap.size w
  clear w0 w1
  have B : ∃ r, bindsI a0 a1 = r ∧ (r = 0 ∨ r = 1 ∧ a1 = 1 ∧ kidsI a0 = 2) := ⟨_, rfl, binds_bit a0 a1⟩
  obtain ⟨r, hr, hr'⟩ := B
  have c1 := fun w => binds_any a0 a1 w
  rw [hr] at c1
  rcases hr' with rfl | ⟨rfl, rfl, h2⟩
  · have C1 := Lib.hid c1
    clear c1 hr
    go_enter Try.func5, Try.ntmps5
    go_wp2_with (first | (go_at_call 11; refine (C1.out _).mono ?_; rintro e w1 ⟨rfl, h1⟩; replace hb := below_step hb h1; clear h1))
    clear C1
    go_loopw [6, 7, 8] (fun a b c wr => ∃ k : Nat, k ≤ 13 ∧ b = .int .i64 ((k : Int) + 1) ∧ a = .int .i64 (nb k) ∧ Below w.heap.size w wr) (fun _ b _ _ => 14 - (intOf b).toNat)
    case atStart => exact ⟨0, by omega, rfl, rfl, hb⟩
    case round =>
      clear hb
      obtain ⟨k, hk, rfl, rfl, hb⟩ := hrel
      have hnb := nb_bd k
      by_cases hlt : k < 13
      · have hs := Lib.hid (nb_step k hlt)
        have d1 : decide ((k : Int) + 1 ≤ 13) = true := decide_eq_true (by omega)
        go_wp2_with (first | (go_at_call 9; refine (kids_any _ _).mono ?_; rintro e w1 ⟨rfl, h1⟩; replace hb := below_step hb h1; clear h1) | (go_at_call 10; refine (rkids_any _ _).mono ?_; rintro e w1 ⟨rfl, h1⟩; replace hb := below_step hb h1; clear h1) | (go_at_call 8; refine (rletter_any _ _).mono ?_; rintro e w1 ⟨rfl, h1⟩; replace hb := below_step hb h1; clear h1) | (go_at_call 11; refine (binds_any _ _ _).mono ?_; rintro e w1 ⟨rfl, h1⟩; replace hb := below_step hb h1; clear h1) | (go_at_call 12; refine (rbinds_any _ _ _).mono ?_; rintro e w1 ⟨rfl, h1⟩; replace hb := below_step hb h1; clear h1) | (go_at_call 13; refine (leaf_any _ _).mono ?_; rintro e w1 ⟨rfl, h1⟩; replace hb := below_step hb h1; clear h1) | (go_at_call 14; refine (letter_any _ _).mono ?_; rintro e w1 ⟨rfl, h1⟩; replace hb := below_step hb h1; clear h1) | (go_at_call 15; refine (canon_any _ _).mono ?_; rintro e w1 ⟨rfl, h1⟩; replace hb := below_step hb h1; clear h1) | (go_at_call 16; refine (wakes_any _).mono ?_; rintro e w1 ⟨rfl, h1⟩; replace hb := below_step hb h1; clear h1))
        go_loopw [6, 8] (fun a c wr => ∃ j : Nat, j ≤ 4 ∧ c = .int .i64 j ∧ a = .int .i64 (nb k + if 1 < j then bindsI ((k : Int) + 1) 1 else 0) ∧ Below w.heap.size w wr) (fun _ c _ => 4 - (intOf c).toNat)
        case atStart => exact ⟨0, by omega, rfl, by simp, hb⟩
        case round =>
          clear hb
          obtain ⟨j, hj, rfl, rfl, hb⟩ := hrel
          obtain ⟨n, hn⟩ : ∃ n, n = nb k + (if 1 < j then bindsI ((k : Int) + 1) 1 else 0) := ⟨_, rfl⟩
          rw [← hn]
          have hbk := binds_01 ((k : Int) + 1) 1
          have hbj := binds_01 ((k : Int) + 1) j
          have hn0 : 0 ≤ n ∧ n ≤ 4 := by rw [hn]; split <;> omega
          by_cases hj4 : j < 4
          · have hnew : n + bindsI ((k : Int) + 1) j = nb k + (if 1 < j + 1 then bindsI ((k : Int) + 1) 1 else 0) := by
              rw [hn]
              by_cases e : j = 1
              · subst e; simp
              · rw [binds_other _ _ (show (j : Int) ≠ 1 by omega)]
                by_cases e0 : j = 0
                · subst e0; simp
                · rw [if_pos (by omega), if_pos (by omega)]; simp
            have HN := Lib.hid hnew
            clear hn hbk hnew
            go_wp2_with (first | (go_at_call 9; refine (kids_any _ _).mono ?_; rintro e w1 ⟨rfl, h1⟩; replace hb := below_step hb h1; clear h1) | (go_at_call 10; refine (rkids_any _ _).mono ?_; rintro e w1 ⟨rfl, h1⟩; replace hb := below_step hb h1; clear h1) | (go_at_call 8; refine (rletter_any _ _).mono ?_; rintro e w1 ⟨rfl, h1⟩; replace hb := below_step hb h1; clear h1) | (go_at_call 11; refine (binds_any _ _ _).mono ?_; rintro e w1 ⟨rfl, h1⟩; replace hb := below_step hb h1; clear h1) | (go_at_call 12; refine (rbinds_any _ _ _).mono ?_; rintro e w1 ⟨rfl, h1⟩; replace hb := below_step hb h1; clear h1) | (go_at_call 13; refine (leaf_any _ _).mono ?_; rintro e w1 ⟨rfl, h1⟩; replace hb := below_step hb h1; clear h1) | (go_at_call 14; refine (letter_any _ _).mono ?_; rintro e w1 ⟨rfl, h1⟩; replace hb := below_step hb h1; clear h1) | (go_at_call 15; refine (canon_any _ _).mono ?_; rintro e w1 ⟨rfl, h1⟩; replace hb := below_step hb h1; clear h1) | (go_at_call 16; refine (wakes_any _).mono ?_; rintro e w1 ⟨rfl, h1⟩; replace hb := below_step hb h1; clear h1))
            go_roundw
            case rel => exact ⟨j + 1, by omega, by go_num, by rw [HN.out], hb⟩
            case measure => simp [intOf]; omega
          · obtain rfl : j = 4 := by omega
            rw [if_pos (by omega), ← hs.out] at hn
            have HN := Lib.hid hn
            clear hn hbk hbj hn0 hj4 hj hnb hs
            go_wp2_with (first | (go_at_call 9; refine (kids_any _ _).mono ?_; rintro e w1 ⟨rfl, h1⟩; replace hb := below_step hb h1; clear h1) | (go_at_call 10; refine (rkids_any _ _).mono ?_; rintro e w1 ⟨rfl, h1⟩; replace hb := below_step hb h1; clear h1) | (go_at_call 8; refine (rletter_any _ _).mono ?_; rintro e w1 ⟨rfl, h1⟩; replace hb := below_step hb h1; clear h1) | (go_at_call 11; refine (binds_any _ _ _).mono ?_; rintro e w1 ⟨rfl, h1⟩; replace hb := below_step hb h1; clear h1) | (go_at_call 12; refine (rbinds_any _ _ _).mono ?_; rintro e w1 ⟨rfl, h1⟩; replace hb := below_step hb h1; clear h1) | (go_at_call 13; refine (leaf_any _ _).mono ?_; rintro e w1 ⟨rfl, h1⟩; replace hb := below_step hb h1; clear h1) | (go_at_call 14; refine (letter_any _ _).mono ?_; rintro e w1 ⟨rfl, h1⟩; replace hb := below_step hb h1; clear h1) | (go_at_call 15; refine (canon_any _ _).mono ?_; rintro e w1 ⟨rfl, h1⟩; replace hb := below_step hb h1; clear h1) | (go_at_call 16; refine (wakes_any _).mono ?_; rintro e w1 ⟨rfl, h1⟩; replace hb := below_step hb h1; clear h1))
            go_roundw
            case rel => exact ⟨k + 1, by omega, by go_num, by rw [HN.out], hb⟩
            case measure => simp [intOf]; omega
      · obtain rfl : k = 13 := by omega
        clear hlt hk hnb
        go_wp2_with (first | (go_at_call 9; refine (kids_any _ _).mono ?_; rintro e w1 ⟨rfl, h1⟩; replace hb := below_step hb h1; clear h1) | (go_at_call 10; refine (rkids_any _ _).mono ?_; rintro e w1 ⟨rfl, h1⟩; replace hb := below_step hb h1; clear h1) | (go_at_call 8; refine (rletter_any _ _).mono ?_; rintro e w1 ⟨rfl, h1⟩; replace hb := below_step hb h1; clear h1) | (go_at_call 11; refine (binds_any _ _ _).mono ?_; rintro e w1 ⟨rfl, h1⟩; replace hb := below_step hb h1; clear h1) | (go_at_call 12; refine (rbinds_any _ _ _).mono ?_; rintro e w1 ⟨rfl, h1⟩; replace hb := below_step hb h1; clear h1) | (go_at_call 13; refine (leaf_any _ _).mono ?_; rintro e w1 ⟨rfl, h1⟩; replace hb := below_step hb h1; clear h1) | (go_at_call 14; refine (letter_any _ _).mono ?_; rintro e w1 ⟨rfl, h1⟩; replace hb := below_step hb h1; clear h1) | (go_at_call 15; refine (canon_any _ _).mono ?_; rintro e w1 ⟨rfl, h1⟩; replace hb := below_step hb h1; clear h1) | (go_at_call 16; refine (wakes_any _).mono ?_; rintro e w1 ⟨rfl, h1⟩; replace hb := below_step hb h1; clear h1))
        go_ret
        exact ⟨rfl, hb⟩
  · have c2 := fun w => kids_any a0 w
    rw [h2] at c2
    have C1 := Lib.hid c1
    have C2 := Lib.hid c2
    clear c1 c2 hr h2
    go_enter Try.func5, Try.ntmps5
    go_wp2_with (first | (go_at_call 11; refine (C1.out _).mono ?_; rintro e w1 ⟨rfl, h1⟩; replace hb := below_step hb h1; clear h1) | (go_at_call 9; refine (C2.out _).mono ?_; rintro e w1 ⟨rfl, h1⟩; replace hb := below_step hb h1; clear h1))
    clear C1 C2
    go_loopw [6, 7, 8] (fun a b c wr => ∃ k : Nat, k ≤ 13 ∧ b = .int .i64 ((k : Int) + 1) ∧ a = .int .i64 (nb k) ∧ Below w.heap.size w wr) (fun _ b _ _ => 14 - (intOf b).toNat)
    case atStart => exact ⟨0, by omega, rfl, rfl, hb⟩
    case round =>
      clear hb
      obtain ⟨k, hk, rfl, rfl, hb⟩ := hrel
      have hnb := nb_bd k
      by_cases hlt : k < 13
      · have hs := Lib.hid (nb_step k hlt)
        have d1 : decide ((k : Int) + 1 ≤ 13) = true := decide_eq_true (by omega)
        go_wp2_with (first | (go_at_call 9; refine (kids_any _ _).mono ?_; rintro e w1 ⟨rfl, h1⟩; replace hb := below_step hb h1; clear h1) | (go_at_call 10; refine (rkids_any _ _).mono ?_; rintro e w1 ⟨rfl, h1⟩; replace hb := below_step hb h1; clear h1) | (go_at_call 8; refine (rletter_any _ _).mono ?_; rintro e w1 ⟨rfl, h1⟩; replace hb := below_step hb h1; clear h1) | (go_at_call 11; refine (binds_any _ _ _).mono ?_; rintro e w1 ⟨rfl, h1⟩; replace hb := below_step hb h1; clear h1) | (go_at_call 12; refine (rbinds_any _ _ _).mono ?_; rintro e w1 ⟨rfl, h1⟩; replace hb := below_step hb h1; clear h1) | (go_at_call 13; refine (leaf_any _ _).mono ?_; rintro e w1 ⟨rfl, h1⟩; replace hb := below_step hb h1; clear h1) | (go_at_call 14; refine (letter_any _ _).mono ?_; rintro e w1 ⟨rfl, h1⟩; replace hb := below_step hb h1; clear h1) | (go_at_call 15; refine (canon_any _ _).mono ?_; rintro e w1 ⟨rfl, h1⟩; replace hb := below_step hb h1; clear h1) | (go_at_call 16; refine (wakes_any _).mono ?_; rintro e w1 ⟨rfl, h1⟩; replace hb := below_step hb h1; clear h1))
        go_loopw [6, 8] (fun a c wr => ∃ j : Nat, j ≤ 4 ∧ c = .int .i64 j ∧ a = .int .i64 (nb k + if 1 < j then bindsI ((k : Int) + 1) 1 else 0) ∧ Below w.heap.size w wr) (fun _ c _ => 4 - (intOf c).toNat)
        case atStart => exact ⟨0, by omega, rfl, by simp, hb⟩
        case round =>
          clear hb
          obtain ⟨j, hj, rfl, rfl, hb⟩ := hrel
          obtain ⟨n, hn⟩ : ∃ n, n = nb k + (if 1 < j then bindsI ((k : Int) + 1) 1 else 0) := ⟨_, rfl⟩
          rw [← hn]
          have hbk := binds_01 ((k : Int) + 1) 1
          have hbj := binds_01 ((k : Int) + 1) j
          have hn0 : 0 ≤ n ∧ n ≤ 4 := by rw [hn]; split <;> omega
          by_cases hj4 : j < 4
          · have hnew : n + bindsI ((k : Int) + 1) j = nb k + (if 1 < j + 1 then bindsI ((k : Int) + 1) 1 else 0) := by
              rw [hn]
              by_cases e : j = 1
              · subst e; simp
              · rw [binds_other _ _ (show (j : Int) ≠ 1 by omega)]
                by_cases e0 : j = 0
                · subst e0; simp
                · rw [if_pos (by omega), if_pos (by omega)]; simp
            have HN := Lib.hid hnew
            clear hn hbk hnew
            go_wp2_with (first | (go_at_call 9; refine (kids_any _ _).mono ?_; rintro e w1 ⟨rfl, h1⟩; replace hb := below_step hb h1; clear h1) | (go_at_call 10; refine (rkids_any _ _).mono ?_; rintro e w1 ⟨rfl, h1⟩; replace hb := below_step hb h1; clear h1) | (go_at_call 8; refine (rletter_any _ _).mono ?_; rintro e w1 ⟨rfl, h1⟩; replace hb := below_step hb h1; clear h1) | (go_at_call 11; refine (binds_any _ _ _).mono ?_; rintro e w1 ⟨rfl, h1⟩; replace hb := below_step hb h1; clear h1) | (go_at_call 12; refine (rbinds_any _ _ _).mono ?_; rintro e w1 ⟨rfl, h1⟩; replace hb := below_step hb h1; clear h1) | (go_at_call 13; refine (leaf_any _ _).mono ?_; rintro e w1 ⟨rfl, h1⟩; replace hb := below_step hb h1; clear h1) | (go_at_call 14; refine (letter_any _ _).mono ?_; rintro e w1 ⟨rfl, h1⟩; replace hb := below_step hb h1; clear h1) | (go_at_call 15; refine (canon_any _ _).mono ?_; rintro e w1 ⟨rfl, h1⟩; replace hb := below_step hb h1; clear h1) | (go_at_call 16; refine (wakes_any _).mono ?_; rintro e w1 ⟨rfl, h1⟩; replace hb := below_step hb h1; clear h1))
            go_roundw
            case rel => exact ⟨j + 1, by omega, by go_num, by rw [HN.out], hb⟩
            case measure => simp [intOf]; omega
          · obtain rfl : j = 4 := by omega
            rw [if_pos (by omega), ← hs.out] at hn
            have HN := Lib.hid hn
            clear hn hbk hbj hn0 hj4 hj hnb hs
            go_wp2_with (first | (go_at_call 9; refine (kids_any _ _).mono ?_; rintro e w1 ⟨rfl, h1⟩; replace hb := below_step hb h1; clear h1) | (go_at_call 10; refine (rkids_any _ _).mono ?_; rintro e w1 ⟨rfl, h1⟩; replace hb := below_step hb h1; clear h1) | (go_at_call 8; refine (rletter_any _ _).mono ?_; rintro e w1 ⟨rfl, h1⟩; replace hb := below_step hb h1; clear h1) | (go_at_call 11; refine (binds_any _ _ _).mono ?_; rintro e w1 ⟨rfl, h1⟩; replace hb := below_step hb h1; clear h1) | (go_at_call 12; refine (rbinds_any _ _ _).mono ?_; rintro e w1 ⟨rfl, h1⟩; replace hb := below_step hb h1; clear h1) | (go_at_call 13; refine (leaf_any _ _).mono ?_; rintro e w1 ⟨rfl, h1⟩; replace hb := below_step hb h1; clear h1) | (go_at_call 14; refine (letter_any _ _).mono ?_; rintro e w1 ⟨rfl, h1⟩; replace hb := below_step hb h1; clear h1) | (go_at_call 15; refine (canon_any _ _).mono ?_; rintro e w1 ⟨rfl, h1⟩; replace hb := below_step hb h1; clear h1) | (go_at_call 16; refine (wakes_any _).mono ?_; rintro e w1 ⟨rfl, h1⟩; replace hb := below_step hb h1; clear h1))
            go_roundw
            case rel => exact ⟨k + 1, by omega, by go_num, by rw [HN.out], hb⟩
            case measure => simp [intOf]; omega
      · obtain rfl : k = 13 := by omega
        clear hlt hk hnb
        go_wp2_with (first | (go_at_call 9; refine (kids_any _ _).mono ?_; rintro e w1 ⟨rfl, h1⟩; replace hb := below_step hb h1; clear h1) | (go_at_call 10; refine (rkids_any _ _).mono ?_; rintro e w1 ⟨rfl, h1⟩; replace hb := below_step hb h1; clear h1) | (go_at_call 8; refine (rletter_any _ _).mono ?_; rintro e w1 ⟨rfl, h1⟩; replace hb := below_step hb h1; clear h1) | (go_at_call 11; refine (binds_any _ _ _).mono ?_; rintro e w1 ⟨rfl, h1⟩; replace hb := below_step hb h1; clear h1) | (go_at_call 12; refine (rbinds_any _ _ _).mono ?_; rintro e w1 ⟨rfl, h1⟩; replace hb := below_step hb h1; clear h1) | (go_at_call 13; refine (leaf_any _ _).mono ?_; rintro e w1 ⟨rfl, h1⟩; replace hb := below_step hb h1; clear h1) | (go_at_call 14; refine (letter_any _ _).mono ?_; rintro e w1 ⟨rfl, h1⟩; replace hb := below_step hb h1; clear h1) | (go_at_call 15; refine (canon_any _ _).mono ?_; rintro e w1 ⟨rfl, h1⟩; replace hb := below_step hb h1; clear h1) | (go_at_call 16; refine (wakes_any _).mono ?_; rintro e w1 ⟨rfl, h1⟩; replace hb := below_step hb h1; clear h1))
        go_ret
        exact ⟨rfl, hb⟩

/-! ### THE ROW's STEP: WRITTEN OUT: LEAVE IT -/
set_option maxRecDepth 100000 in
theorem lifted (os : Os) (started : os.Started) (H : Type) (enc : TypeId × Value → H) :
    ReturnsInHanded {} Try.checked os 5 .any (Rows.kindBindsSpec.pre6 enc Try.prog Try.f5 Rows.kindBindsRow.domain false) (Rows.kindBindsSpec.post enc Try.prog Try.f5 false true false false) := by
  refine returnsInHanded_of_change (C := Try.checked) own started (by kernel_rfl) Try.func5
    (ChangeSpec.witness6 (enc := enc) (C := Try.checked) false ⟨#[], #[.int .i64 0, .int .i64 0], []⟩ 8 (by kernel_rfl) (by kernel_rfl) (by kernel_rfl) (by kernel_rfl)) ?_
  intro W base args ds gs before hval0 hW hcnd _
  have hval : ∀ (j : Nat) t v, Try.f5.params[j]? = some t → args[j]? = some v → Value.okWide Try.prog W .any base t v := hval0
  have hW' := hW
  obtain ⟨p, q, hA0, hV, rfl, hfz, hnd⟩ := hW
  have hA : DataW.TrodAll enc Try.prog W 0 (fun _ => true) true Try.f5.params.toList args.toList ds p := hA0
  rw [Try.params5] at hA hval
  obtain ⟨v0, vs0, d0, ds0, p0, q0, hargs, rfl, rfl, h0, r0⟩ := trodAll_cons hA
  obtain ⟨v1, vs1, d1, ds1, p1, q1, rfl, rfl, rfl, h1, r1⟩ := trodAll_cons r0
  obtain ⟨rfl, rfl, rfl⟩ := trodAll_nil r1
  obtain rfl : args = #[v0, v1] := by cases args; simp_all
  obtain ⟨rfl, rfl⟩ := trodVars_none hV
  obtain ⟨a0, rfl, rfl, rfl, w0⟩ := open_int Try.underlying3 (hval 0 3 v0 rfl rfl) h0
  obtain ⟨a1, rfl, rfl, rfl, w1⟩ := open_int Try.underlying3 (hval 1 3 v1 rfl rfl) h1
  clear hA0 hval0
  simp only [List.append_nil] at hW'
  refine (walk a0 a1 w0 w1 W).mono fun e W' ⟨he, hg⟩ => ?_
  subst he
  exact ⟨_, rfl, _, _, _, [], _, [], hW', trodAll_mk1 (shut_bool Try.underlying4 _), (trodAll_cons_mk (shut_int Try.underlying3 w0) (trodAll_cons_mk (shut_int Try.underlying3 w1) trodAll_mk0)), rfl, hg.frame _, fun h => by cases h⟩

theorem over : Rows.kindBindsRow.holds Try.pinned (OpenSpec.ofChange Rows.kindBindsSpec) :=
  OpenClaim.holds_of_wide 5 Try.f5 rfl rfl rfl rfl rfl rfl rfl ⟨rfl, rfl, rfl, rfl, rfl⟩ rfl rfl rfl rfl rfl (by kernel_rfl) Try.func5 (by kernel_rfl)
    (of_decide_eq_true (by kernel_rfl)) (by unfold Func.isWrapper; first | (rw [if_pos (by decide +kernel)]; kernel_rfl) | (rw [if_neg (by decide +kernel)]; exact ⟨rfl, rfl⟩))
    (fun os started H enc _ => lifted os started H enc)

/-- ████ THE STATEMENT ████ -/
theorem proved : Rows.KindBindsSaid :=
  over
end Go.Proofs.Ytfjkojebpbnecaa.kindBinds
namespace Go.Proofs.Ytfjkojebpbnecaa
theorem kindBinds_holds : Rows.KindBindsSaid := kindBinds.proved
end Go.Proofs.Ytfjkojebpbnecaa
#print axioms Go.Proofs.Ytfjkojebpbnecaa.kindBinds_holds
