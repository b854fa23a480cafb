/-
  For every two numbers the law KindTells returns true. No condition.
-/
import Derived.Test.YtfjkojebpbnecaaRows
import Derived.Test.YtfjkojebpbnecaaKind
import Derived.Below
import Derived.WalkKit
import Derived.ProofKit
import Derived.OpenShut
namespace Go.Proofs.Ytfjkojebpbnecaa.kindTells
open Go.Proofs.YtfjkojebpbnecaaW.PrintWords Go.Proofs.YtfjkojebpbnecaaW.PrintLast Go.Proofs.YtfjkojebpbnecaaW.PrintMore
open Go.ChangeShapes Go.WideShapes Go.ChangeAt Go.RowKit
set_option linter.unusedVariables false      -- a walk need not use every 'w<i>' (that an integer argument fits its kind)

theorem own : ownKnob Try.prog.godebug = none := by kernel_rfl


def kindsC (k : Int) : Int := if k ≤ 1 then 0 else if 14 ≤ k then 13 else k - 1
def leavesC (k : Int) : Int := if k ≤ 1 then 0 else if 4 ≤ k then 3 else k - 1
def bindsC (k : Int) : Int := if k ≤ 4 then 0 else if k ≤ 5 then 1 else if k ≤ 7 then 2 else 3
def canonC (k : Int) : Int := if k ≤ 2 then 0 else if k ≤ 4 then 1 else if k ≤ 5 then 2 else if k ≤ 7 then 3 else if k ≤ 8 then 4 else if k ≤ 11 then 5 else if k ≤ 12 then 6 else 7
theorem cnt_out (k : Int) (h : k < 1 ∨ 13 < k) : kindsC (k + 1) = kindsC k ∧ leavesC (k + 1) = leavesC k ∧ bindsC (k + 1) = bindsC k ∧ canonC (k + 1) = canonC k := by
  unfold kindsC leavesC bindsC canonC
  rcases h with h | h
  · refine ⟨?_, ?_, ?_, ?_⟩
    · rw [if_pos (by omega), if_pos (by omega)]
    · rw [if_pos (by omega), if_pos (by omega)]
    · rw [if_pos (by omega), if_pos (by omega)]
    · rw [if_pos (by omega), if_pos (by omega)]
  · refine ⟨?_, ?_, ?_, ?_⟩
    · rw [if_neg (by omega), if_pos (by omega), if_neg (by omega), if_pos (by omega)]
    · rw [if_neg (by omega), if_pos (by omega), if_neg (by omega), if_pos (by omega)]
    · rw [if_neg (by omega), if_neg (by omega), if_neg (by omega), if_neg (by omega), if_neg (by omega), if_neg (by omega)]
    · rw [if_neg (by omega), if_neg (by omega), if_neg (by omega), if_neg (by omega), if_neg (by omega), if_neg (by omega), if_neg (by omega), if_neg (by omega), if_neg (by omega), if_neg (by omega), if_neg (by omega), if_neg (by omega), if_neg (by omega), if_neg (by omega)]
theorem cnt_in (k : Int) (h : 1 ≤ k ∧ k ≤ 13) : kindsC k + 1 = kindsC (k + 1) ∧ leavesC k + (if (kidsI k == 0) = true then 1 else 0) = leavesC (k + 1) ∧ bindsC k + bindsI k 1 = bindsC (k + 1) ∧ canonC k + (if canonB k = true then 1 else 0) = canonC (k + 1) := by
  have h2 : ∀ u : Fin 13, let k : Int := (u.val : Int) + 1; kindsC k + 1 = kindsC (k + 1) ∧ leavesC k + (if (kidsI k == 0) = true then 1 else 0) = leavesC (k + 1) ∧ bindsC k + bindsI k 1 = bindsC (k + 1) ∧ canonC k + (if canonB k = true then 1 else 0) = canonC (k + 1) := by decide
  have h3 := h2 ⟨(k - 1).toNat, by omega⟩
  have e : (((⟨(k - 1).toNat, by omega⟩ : Fin 13).val : Int)) + 1 = k := by show (((k - 1).toNat : Nat) : Int) + 1 = k; omega
  simp only [e] at h3
  exact h3
theorem cnt_bd (k : Int) : (0 ≤ kindsC k ∧ kindsC k ≤ 13) ∧ (0 ≤ leavesC k ∧ leavesC k ≤ 3) ∧ (0 ≤ bindsC k ∧ bindsC k ≤ 3) ∧ (0 ≤ canonC k ∧ canonC k ≤ 7) := by
  unfold kindsC leavesC bindsC canonC
  refine ⟨?_, ?_, ?_, ?_⟩ <;> (repeat' split) <;> omega
theorem lett_pos (a : Int) (h : 1 ≤ a ∧ a ≤ 13) : lettI a ≠ 0 := by
  rcases kind_cases a with h | h | h | h | h | h | h | h | h | h | h | h | h | h | h
  · omega
  · omega
  all_goals subst h; decide
theorem low40 (a : Int) : ∃ G, wrap64 ((IntKind.u64.wrap a).tmod 40) = G ∧ 0 ≤ G ∧ G ≤ 39 := by
  have e : IntKind.u64.wrap a = a % 18446744073709551616 := rfl
  rw [e]
  have h0 : 0 ≤ a % 18446744073709551616 := Int.emod_nonneg _ (by omega)
  rw [Int.tmod_eq_emod_of_nonneg h0]
  exact ⟨_, rfl, by unfold wrap64; omega, by unfold wrap64; omega⟩
theorem low60 (a : Int) : ∃ G, wrap64 ((IntKind.u64.wrap a).tmod 60) = G ∧ 0 ≤ G ∧ G ≤ 59 := by
  have e : IntKind.u64.wrap a = a % 18446744073709551616 := rfl
  rw [e]
  have h0 : 0 ≤ a % 18446744073709551616 := Int.emod_nonneg _ (by omega)
  rw [Int.tmod_eq_emod_of_nonneg h0]
  exact ⟨_, rfl, by unfold wrap64; omega, by unfold wrap64; omega⟩

theorem of_letter (a : Int) (h : 1 ≤ a ∧ a ≤ 13) : ofV (lettI a) = .tuple #[.int .i64 a, .bool true] := by
  rcases kind_cases a with h | h | h | h | h | h | h | h | h | h | h | h | h | h | h
  · omega
  · omega
  all_goals subst h; rfl
theorem lett_inj (a b : Int) (ha : 1 ≤ a ∧ a ≤ 13) (hb : 1 ≤ b ∧ b ≤ 13) (h : lettI a = lettI b) : a = b := by
  have ea := of_letter a ha
  rw [h, of_letter b hb] at ea
  injection ea with ea
  injection ea with ea
  injection ea with ea
  injection ea with ea
  omega
theorem kids_neg (a : Int) : kidsI a < 0 ↔ ¬ (1 ≤ a ∧ a ≤ 13) := by
  unfold kidsI; repeat' split
  all_goals omega
theorem out_let (a : Int) (h : ¬ (1 ≤ a ∧ a ≤ 13)) : lettI a = 0 ∧ kidsI a = -1 ∧ canonB a = false ∧ bindsI a 1 = 0 := by
  refine ⟨?_, ?_, ?_, ?_⟩
  · unfold lettI
    rw [if_neg (by omega), if_neg (by omega), if_neg (by omega), if_neg (by omega), if_neg (by omega), if_neg (by omega), if_neg (by omega), if_neg (by omega), if_neg (by omega), if_neg (by omega), if_neg (by omega), if_neg (by omega), if_neg (by omega)]
  · unfold kidsI; repeat' split
    all_goals omega
  · rw [Bool.eq_false_iff]
    intro hc
    simp only [canonB, Bool.or_eq_true, beq_iff_eq] at hc
    omega
  · unfold bindsI; rw [if_neg (by omega)]
theorem binds_01 (a i : Int) : 0 ≤ bindsI a i ∧ bindsI a i ≤ 1 := by
  unfold bindsI; split <;> omega


set_option maxHeartbeats 4000000 in
theorem walk_aa (a0 : Int) (a1 : Int) (F T : Int) (hF : wrap64 ((IntKind.u64.wrap a0).tmod 40) = F) (f0 : 0 ≤ F) (f1 : F ≤ 39) (hT : wrap64 ((IntKind.u64.wrap a1).tmod 60) = T) (t0 : 0 ≤ T) (t1 : T ≤ 59) (hm : F - 10 ≤ 0) (hx : T < 20) (w : World) :
    Calls Try.prog 6 #[.int .i64 a0, .int .i64 a1] w fun e w' => e = .returned (.bool true) ∧ Below w.heap.size w w' := by
  have hb := Below.refl w.heap.size w
  go_enter Try.func6, Try.ntmps6
  go_wp2_with (first | (go_at_call 9; refine (kids_any _ _).mono ?_; rintro e w1 ⟨rfl, h1⟩; replace hb := below_step hb h1; clear h1) | (go_at_call 10; refine (rkids_any _ _).mono ?_; rintro e w1 ⟨rfl, h1⟩; replace hb := below_step hb h1; clear h1) | (go_at_call 8; refine (rletter_any _ _).mono ?_; rintro e w1 ⟨rfl, h1⟩; replace hb := below_step hb h1; clear h1) | (go_at_call 11; refine (binds_any _ _ _).mono ?_; rintro e w1 ⟨rfl, h1⟩; replace hb := below_step hb h1; clear h1) | (go_at_call 12; refine (rbinds_any _ _ _).mono ?_; rintro e w1 ⟨rfl, h1⟩; replace hb := below_step hb h1; clear h1) | (go_at_call 13; refine (leaf_any _ _).mono ?_; rintro e w1 ⟨rfl, h1⟩; replace hb := below_step hb h1; clear h1) | (go_at_call 14; refine (letter_any _ _).mono ?_; rintro e w1 ⟨rfl, h1⟩; replace hb := below_step hb h1; clear h1) | (go_at_call 15; refine (canon_any _ _).mono ?_; rintro e w1 ⟨rfl, h1⟩; replace hb := below_step hb h1; clear h1) | (go_at_call 16; refine (wakes_any _).mono ?_; rintro e w1 ⟨rfl, h1⟩; replace hb := below_step hb h1; clear h1))
  try rw [hT]
  clear hF hT
  go_loopw [5, 6, 7, 8, 9] (fun a b c d e wr => ∃ k : Int, -10 ≤ k ∧ k ≤ 20 + 1 ∧ a = .int .i64 (leavesC k) ∧ b = .int .i64 (bindsC k) ∧ c = .int .i64 (canonC k) ∧ d = .int .i64 (kindsC k) ∧ e = .int .i64 k ∧ Below w.heap.size w wr) (fun _ _ _ _ e _ => (20 + 1 - intOf e).toNat)
  case atStart => exact ⟨F - 10, by omega, by omega, by rw [show leavesC (F - 10) = 0 from if_pos (by omega)], by rw [show bindsC (F - 10) = 0 from if_pos (by omega)], by rw [show canonC (F - 10) = 0 from if_pos (by omega)], by rw [show kindsC (F - 10) = 0 from if_pos (by omega)], by first | rfl | (congr 1), hb⟩
  case round =>
    clear hb
    obtain ⟨k, hk0, hk1, rfl, rfl, rfl, rfl, rfl, hb⟩ := hrel
    have hbd := cnt_bd k
    by_cases hk : k ≤ 20
    · by_cases hi : 1 ≤ k ∧ k ≤ 13
      · have hpos := lett_pos k hi
        have hz : (lettI k == 0) = false := by rw [beq_eq_false_iff_ne]; exact hpos
        have hkn : ¬ kidsI k < 0 := by rw [kids_neg]; omega
        have n := cnt_in k hi
        have N0 := Lib.hid n.1
        have N1 := Lib.hid n.2.1
        have N2 := Lib.hid n.2.2.1
        have N3 := Lib.hid n.2.2.2
        have hb1 := binds_01 k 1
        have d1 : decide (kidsI k < 0) = false := decide_eq_false hkn
        have d2 : decide (k < 1) = false := decide_eq_false (by omega)
        have d3 : decide (13 < k) = false := decide_eq_false (by omega)
        clear n hpos
        obtain ⟨hi1, hi2⟩ := hi
        have hi := Lib.hid (And.intro hi1 hi2)
        by_cases hl : (kidsI k == 0) = true
        · have LT := Lib.hid hl
          by_cases hc : canonB k = true
          · have CT := Lib.hid hc
            go_wp2_with (first | (go_at_call 9; refine (kids_any _ _).mono ?_; rintro e w1 ⟨rfl, h1⟩; replace hb := below_step hb h1; clear h1) | (go_at_call 10; refine (rkids_any _ _).mono ?_; rintro e w1 ⟨rfl, h1⟩; replace hb := below_step hb h1; clear h1) | (go_at_call 8; refine (rletter_any _ _).mono ?_; rintro e w1 ⟨rfl, h1⟩; replace hb := below_step hb h1; clear h1) | (go_at_call 11; refine (binds_any _ _ _).mono ?_; rintro e w1 ⟨rfl, h1⟩; replace hb := below_step hb h1; clear h1) | (go_at_call 12; refine (rbinds_any _ _ _).mono ?_; rintro e w1 ⟨rfl, h1⟩; replace hb := below_step hb h1; clear h1) | (go_at_call 13; refine (leaf_any _ _).mono ?_; rintro e w1 ⟨rfl, h1⟩; replace hb := below_step hb h1; clear h1) | (go_at_call 14; refine (letter_any _ _).mono ?_; rintro e w1 ⟨rfl, h1⟩; replace hb := below_step hb h1; clear h1) | (go_at_call 15; refine (canon_any _ _).mono ?_; rintro e w1 ⟨rfl, h1⟩; replace hb := below_step hb h1; clear h1) | (go_at_call 16; refine (wakes_any _).mono ?_; rintro e w1 ⟨rfl, h1⟩; replace hb := below_step hb h1; clear h1))
            go_loopw [11] (fun a wr => ∃ j : Int, 1 ≤ j ∧ j ≤ k ∧ a = .int .i64 j ∧ Below w.heap.size w wr) (fun a _ => (k - intOf a).toNat)
            case atStart => exact ⟨1, by omega, by omega, rfl, hb⟩
            case round =>
              clear hb
              obtain ⟨j, hj0, hj1, rfl, hb⟩ := hrel
              by_cases hjk : j < k
              · have he : (lettI j == lettI k) = false := by rw [beq_eq_false_iff_ne]; exact fun x => absurd (lett_inj _ _ ⟨hj0, by omega⟩ hi.out x) (by omega)
                go_wp2_with (first | (go_at_call 9; refine (kids_any _ _).mono ?_; rintro e w1 ⟨rfl, h1⟩; replace hb := below_step hb h1; clear h1) | (go_at_call 10; refine (rkids_any _ _).mono ?_; rintro e w1 ⟨rfl, h1⟩; replace hb := below_step hb h1; clear h1) | (go_at_call 8; refine (rletter_any _ _).mono ?_; rintro e w1 ⟨rfl, h1⟩; replace hb := below_step hb h1; clear h1) | (go_at_call 11; refine (binds_any _ _ _).mono ?_; rintro e w1 ⟨rfl, h1⟩; replace hb := below_step hb h1; clear h1) | (go_at_call 12; refine (rbinds_any _ _ _).mono ?_; rintro e w1 ⟨rfl, h1⟩; replace hb := below_step hb h1; clear h1) | (go_at_call 13; refine (leaf_any _ _).mono ?_; rintro e w1 ⟨rfl, h1⟩; replace hb := below_step hb h1; clear h1) | (go_at_call 14; refine (letter_any _ _).mono ?_; rintro e w1 ⟨rfl, h1⟩; replace hb := below_step hb h1; clear h1) | (go_at_call 15; refine (canon_any _ _).mono ?_; rintro e w1 ⟨rfl, h1⟩; replace hb := below_step hb h1; clear h1) | (go_at_call 16; refine (wakes_any _).mono ?_; rintro e w1 ⟨rfl, h1⟩; replace hb := below_step hb h1; clear h1))
                go_roundw
                case rel => exact ⟨j + 1, by omega, by omega, by go_num, hb⟩
                case measure => simp [intOf]; omega
              · clear hj0 hj1
                go_wp2_with (first | (go_at_call 9; refine (kids_any _ _).mono ?_; rintro e w1 ⟨rfl, h1⟩; replace hb := below_step hb h1; clear h1) | (go_at_call 10; refine (rkids_any _ _).mono ?_; rintro e w1 ⟨rfl, h1⟩; replace hb := below_step hb h1; clear h1) | (go_at_call 8; refine (rletter_any _ _).mono ?_; rintro e w1 ⟨rfl, h1⟩; replace hb := below_step hb h1; clear h1) | (go_at_call 11; refine (binds_any _ _ _).mono ?_; rintro e w1 ⟨rfl, h1⟩; replace hb := below_step hb h1; clear h1) | (go_at_call 12; refine (rbinds_any _ _ _).mono ?_; rintro e w1 ⟨rfl, h1⟩; replace hb := below_step hb h1; clear h1) | (go_at_call 13; refine (leaf_any _ _).mono ?_; rintro e w1 ⟨rfl, h1⟩; replace hb := below_step hb h1; clear h1) | (go_at_call 14; refine (letter_any _ _).mono ?_; rintro e w1 ⟨rfl, h1⟩; replace hb := below_step hb h1; clear h1) | (go_at_call 15; refine (canon_any _ _).mono ?_; rintro e w1 ⟨rfl, h1⟩; replace hb := below_step hb h1; clear h1) | (go_at_call 16; refine (wakes_any _).mono ?_; rintro e w1 ⟨rfl, h1⟩; replace hb := below_step hb h1; clear h1))
                go_roundw
                case rel => exact ⟨k + 1, by omega, by omega, by rw [← N1.out]; rw [if_pos LT.out], by rw [← N2.out], by rw [← N3.out]; rw [if_pos CT.out], by rw [← N0.out], by go_num, hb⟩
                case measure => simp [intOf]; omega
          · have CT := Lib.hid hc
            replace hc := Bool.eq_false_iff.mpr hc
            go_wp2_with (first | (go_at_call 9; refine (kids_any _ _).mono ?_; rintro e w1 ⟨rfl, h1⟩; replace hb := below_step hb h1; clear h1) | (go_at_call 10; refine (rkids_any _ _).mono ?_; rintro e w1 ⟨rfl, h1⟩; replace hb := below_step hb h1; clear h1) | (go_at_call 8; refine (rletter_any _ _).mono ?_; rintro e w1 ⟨rfl, h1⟩; replace hb := below_step hb h1; clear h1) | (go_at_call 11; refine (binds_any _ _ _).mono ?_; rintro e w1 ⟨rfl, h1⟩; replace hb := below_step hb h1; clear h1) | (go_at_call 12; refine (rbinds_any _ _ _).mono ?_; rintro e w1 ⟨rfl, h1⟩; replace hb := below_step hb h1; clear h1) | (go_at_call 13; refine (leaf_any _ _).mono ?_; rintro e w1 ⟨rfl, h1⟩; replace hb := below_step hb h1; clear h1) | (go_at_call 14; refine (letter_any _ _).mono ?_; rintro e w1 ⟨rfl, h1⟩; replace hb := below_step hb h1; clear h1) | (go_at_call 15; refine (canon_any _ _).mono ?_; rintro e w1 ⟨rfl, h1⟩; replace hb := below_step hb h1; clear h1) | (go_at_call 16; refine (wakes_any _).mono ?_; rintro e w1 ⟨rfl, h1⟩; replace hb := below_step hb h1; clear h1))
            go_loopw [11] (fun a wr => ∃ j : Int, 1 ≤ j ∧ j ≤ k ∧ a = .int .i64 j ∧ Below w.heap.size w wr) (fun a _ => (k - intOf a).toNat)
            case atStart => exact ⟨1, by omega, by omega, rfl, hb⟩
            case round =>
              clear hb
              obtain ⟨j, hj0, hj1, rfl, hb⟩ := hrel
              by_cases hjk : j < k
              · have he : (lettI j == lettI k) = false := by rw [beq_eq_false_iff_ne]; exact fun x => absurd (lett_inj _ _ ⟨hj0, by omega⟩ hi.out x) (by omega)
                go_wp2_with (first | (go_at_call 9; refine (kids_any _ _).mono ?_; rintro e w1 ⟨rfl, h1⟩; replace hb := below_step hb h1; clear h1) | (go_at_call 10; refine (rkids_any _ _).mono ?_; rintro e w1 ⟨rfl, h1⟩; replace hb := below_step hb h1; clear h1) | (go_at_call 8; refine (rletter_any _ _).mono ?_; rintro e w1 ⟨rfl, h1⟩; replace hb := below_step hb h1; clear h1) | (go_at_call 11; refine (binds_any _ _ _).mono ?_; rintro e w1 ⟨rfl, h1⟩; replace hb := below_step hb h1; clear h1) | (go_at_call 12; refine (rbinds_any _ _ _).mono ?_; rintro e w1 ⟨rfl, h1⟩; replace hb := below_step hb h1; clear h1) | (go_at_call 13; refine (leaf_any _ _).mono ?_; rintro e w1 ⟨rfl, h1⟩; replace hb := below_step hb h1; clear h1) | (go_at_call 14; refine (letter_any _ _).mono ?_; rintro e w1 ⟨rfl, h1⟩; replace hb := below_step hb h1; clear h1) | (go_at_call 15; refine (canon_any _ _).mono ?_; rintro e w1 ⟨rfl, h1⟩; replace hb := below_step hb h1; clear h1) | (go_at_call 16; refine (wakes_any _).mono ?_; rintro e w1 ⟨rfl, h1⟩; replace hb := below_step hb h1; clear h1))
                go_roundw
                case rel => exact ⟨j + 1, by omega, by omega, by go_num, hb⟩
                case measure => simp [intOf]; omega
              · clear hj0 hj1
                go_wp2_with (first | (go_at_call 9; refine (kids_any _ _).mono ?_; rintro e w1 ⟨rfl, h1⟩; replace hb := below_step hb h1; clear h1) | (go_at_call 10; refine (rkids_any _ _).mono ?_; rintro e w1 ⟨rfl, h1⟩; replace hb := below_step hb h1; clear h1) | (go_at_call 8; refine (rletter_any _ _).mono ?_; rintro e w1 ⟨rfl, h1⟩; replace hb := below_step hb h1; clear h1) | (go_at_call 11; refine (binds_any _ _ _).mono ?_; rintro e w1 ⟨rfl, h1⟩; replace hb := below_step hb h1; clear h1) | (go_at_call 12; refine (rbinds_any _ _ _).mono ?_; rintro e w1 ⟨rfl, h1⟩; replace hb := below_step hb h1; clear h1) | (go_at_call 13; refine (leaf_any _ _).mono ?_; rintro e w1 ⟨rfl, h1⟩; replace hb := below_step hb h1; clear h1) | (go_at_call 14; refine (letter_any _ _).mono ?_; rintro e w1 ⟨rfl, h1⟩; replace hb := below_step hb h1; clear h1) | (go_at_call 15; refine (canon_any _ _).mono ?_; rintro e w1 ⟨rfl, h1⟩; replace hb := below_step hb h1; clear h1) | (go_at_call 16; refine (wakes_any _).mono ?_; rintro e w1 ⟨rfl, h1⟩; replace hb := below_step hb h1; clear h1))
                go_roundw
                case rel => exact ⟨k + 1, by omega, by omega, by rw [← N1.out]; rw [if_pos LT.out], by rw [← N2.out], by rw [← N3.out]; rw [if_neg CT.out]; go_num, by rw [← N0.out], by go_num, hb⟩
                case measure => simp [intOf]; omega
        · have LT := Lib.hid hl
          replace hl := Bool.eq_false_iff.mpr hl
          by_cases hc : canonB k = true
          · have CT := Lib.hid hc
            go_wp2_with (first | (go_at_call 9; refine (kids_any _ _).mono ?_; rintro e w1 ⟨rfl, h1⟩; replace hb := below_step hb h1; clear h1) | (go_at_call 10; refine (rkids_any _ _).mono ?_; rintro e w1 ⟨rfl, h1⟩; replace hb := below_step hb h1; clear h1) | (go_at_call 8; refine (rletter_any _ _).mono ?_; rintro e w1 ⟨rfl, h1⟩; replace hb := below_step hb h1; clear h1) | (go_at_call 11; refine (binds_any _ _ _).mono ?_; rintro e w1 ⟨rfl, h1⟩; replace hb := below_step hb h1; clear h1) | (go_at_call 12; refine (rbinds_any _ _ _).mono ?_; rintro e w1 ⟨rfl, h1⟩; replace hb := below_step hb h1; clear h1) | (go_at_call 13; refine (leaf_any _ _).mono ?_; rintro e w1 ⟨rfl, h1⟩; replace hb := below_step hb h1; clear h1) | (go_at_call 14; refine (letter_any _ _).mono ?_; rintro e w1 ⟨rfl, h1⟩; replace hb := below_step hb h1; clear h1) | (go_at_call 15; refine (canon_any _ _).mono ?_; rintro e w1 ⟨rfl, h1⟩; replace hb := below_step hb h1; clear h1) | (go_at_call 16; refine (wakes_any _).mono ?_; rintro e w1 ⟨rfl, h1⟩; replace hb := below_step hb h1; clear h1))
            go_loopw [11] (fun a wr => ∃ j : Int, 1 ≤ j ∧ j ≤ k ∧ a = .int .i64 j ∧ Below w.heap.size w wr) (fun a _ => (k - intOf a).toNat)
            case atStart => exact ⟨1, by omega, by omega, rfl, hb⟩
            case round =>
              clear hb
              obtain ⟨j, hj0, hj1, rfl, hb⟩ := hrel
              by_cases hjk : j < k
              · have he : (lettI j == lettI k) = false := by rw [beq_eq_false_iff_ne]; exact fun x => absurd (lett_inj _ _ ⟨hj0, by omega⟩ hi.out x) (by omega)
                go_wp2_with (first | (go_at_call 9; refine (kids_any _ _).mono ?_; rintro e w1 ⟨rfl, h1⟩; replace hb := below_step hb h1; clear h1) | (go_at_call 10; refine (rkids_any _ _).mono ?_; rintro e w1 ⟨rfl, h1⟩; replace hb := below_step hb h1; clear h1) | (go_at_call 8; refine (rletter_any _ _).mono ?_; rintro e w1 ⟨rfl, h1⟩; replace hb := below_step hb h1; clear h1) | (go_at_call 11; refine (binds_any _ _ _).mono ?_; rintro e w1 ⟨rfl, h1⟩; replace hb := below_step hb h1; clear h1) | (go_at_call 12; refine (rbinds_any _ _ _).mono ?_; rintro e w1 ⟨rfl, h1⟩; replace hb := below_step hb h1; clear h1) | (go_at_call 13; refine (leaf_any _ _).mono ?_; rintro e w1 ⟨rfl, h1⟩; replace hb := below_step hb h1; clear h1) | (go_at_call 14; refine (letter_any _ _).mono ?_; rintro e w1 ⟨rfl, h1⟩; replace hb := below_step hb h1; clear h1) | (go_at_call 15; refine (canon_any _ _).mono ?_; rintro e w1 ⟨rfl, h1⟩; replace hb := below_step hb h1; clear h1) | (go_at_call 16; refine (wakes_any _).mono ?_; rintro e w1 ⟨rfl, h1⟩; replace hb := below_step hb h1; clear h1))
                go_roundw
                case rel => exact ⟨j + 1, by omega, by omega, by go_num, hb⟩
                case measure => simp [intOf]; omega
              · clear hj0 hj1
                go_wp2_with (first | (go_at_call 9; refine (kids_any _ _).mono ?_; rintro e w1 ⟨rfl, h1⟩; replace hb := below_step hb h1; clear h1) | (go_at_call 10; refine (rkids_any _ _).mono ?_; rintro e w1 ⟨rfl, h1⟩; replace hb := below_step hb h1; clear h1) | (go_at_call 8; refine (rletter_any _ _).mono ?_; rintro e w1 ⟨rfl, h1⟩; replace hb := below_step hb h1; clear h1) | (go_at_call 11; refine (binds_any _ _ _).mono ?_; rintro e w1 ⟨rfl, h1⟩; replace hb := below_step hb h1; clear h1) | (go_at_call 12; refine (rbinds_any _ _ _).mono ?_; rintro e w1 ⟨rfl, h1⟩; replace hb := below_step hb h1; clear h1) | (go_at_call 13; refine (leaf_any _ _).mono ?_; rintro e w1 ⟨rfl, h1⟩; replace hb := below_step hb h1; clear h1) | (go_at_call 14; refine (letter_any _ _).mono ?_; rintro e w1 ⟨rfl, h1⟩; replace hb := below_step hb h1; clear h1) | (go_at_call 15; refine (canon_any _ _).mono ?_; rintro e w1 ⟨rfl, h1⟩; replace hb := below_step hb h1; clear h1) | (go_at_call 16; refine (wakes_any _).mono ?_; rintro e w1 ⟨rfl, h1⟩; replace hb := below_step hb h1; clear h1))
                go_roundw
                case rel => exact ⟨k + 1, by omega, by omega, by rw [← N1.out]; rw [if_neg LT.out]; go_num, by rw [← N2.out], by rw [← N3.out]; rw [if_pos CT.out], by rw [← N0.out], by go_num, hb⟩
                case measure => simp [intOf]; omega
          · have CT := Lib.hid hc
            replace hc := Bool.eq_false_iff.mpr hc
            go_wp2_with (first | (go_at_call 9; refine (kids_any _ _).mono ?_; rintro e w1 ⟨rfl, h1⟩; replace hb := below_step hb h1; clear h1) | (go_at_call 10; refine (rkids_any _ _).mono ?_; rintro e w1 ⟨rfl, h1⟩; replace hb := below_step hb h1; clear h1) | (go_at_call 8; refine (rletter_any _ _).mono ?_; rintro e w1 ⟨rfl, h1⟩; replace hb := below_step hb h1; clear h1) | (go_at_call 11; refine (binds_any _ _ _).mono ?_; rintro e w1 ⟨rfl, h1⟩; replace hb := below_step hb h1; clear h1) | (go_at_call 12; refine (rbinds_any _ _ _).mono ?_; rintro e w1 ⟨rfl, h1⟩; replace hb := below_step hb h1; clear h1) | (go_at_call 13; refine (leaf_any _ _).mono ?_; rintro e w1 ⟨rfl, h1⟩; replace hb := below_step hb h1; clear h1) | (go_at_call 14; refine (letter_any _ _).mono ?_; rintro e w1 ⟨rfl, h1⟩; replace hb := below_step hb h1; clear h1) | (go_at_call 15; refine (canon_any _ _).mono ?_; rintro e w1 ⟨rfl, h1⟩; replace hb := below_step hb h1; clear h1) | (go_at_call 16; refine (wakes_any _).mono ?_; rintro e w1 ⟨rfl, h1⟩; replace hb := below_step hb h1; clear h1))
            go_loopw [11] (fun a wr => ∃ j : Int, 1 ≤ j ∧ j ≤ k ∧ a = .int .i64 j ∧ Below w.heap.size w wr) (fun a _ => (k - intOf a).toNat)
            case atStart => exact ⟨1, by omega, by omega, rfl, hb⟩
            case round =>
              clear hb
              obtain ⟨j, hj0, hj1, rfl, hb⟩ := hrel
              by_cases hjk : j < k
              · have he : (lettI j == lettI k) = false := by rw [beq_eq_false_iff_ne]; exact fun x => absurd (lett_inj _ _ ⟨hj0, by omega⟩ hi.out x) (by omega)
                go_wp2_with (first | (go_at_call 9; refine (kids_any _ _).mono ?_; rintro e w1 ⟨rfl, h1⟩; replace hb := below_step hb h1; clear h1) | (go_at_call 10; refine (rkids_any _ _).mono ?_; rintro e w1 ⟨rfl, h1⟩; replace hb := below_step hb h1; clear h1) | (go_at_call 8; refine (rletter_any _ _).mono ?_; rintro e w1 ⟨rfl, h1⟩; replace hb := below_step hb h1; clear h1) | (go_at_call 11; refine (binds_any _ _ _).mono ?_; rintro e w1 ⟨rfl, h1⟩; replace hb := below_step hb h1; clear h1) | (go_at_call 12; refine (rbinds_any _ _ _).mono ?_; rintro e w1 ⟨rfl, h1⟩; replace hb := below_step hb h1; clear h1) | (go_at_call 13; refine (leaf_any _ _).mono ?_; rintro e w1 ⟨rfl, h1⟩; replace hb := below_step hb h1; clear h1) | (go_at_call 14; refine (letter_any _ _).mono ?_; rintro e w1 ⟨rfl, h1⟩; replace hb := below_step hb h1; clear h1) | (go_at_call 15; refine (canon_any _ _).mono ?_; rintro e w1 ⟨rfl, h1⟩; replace hb := below_step hb h1; clear h1) | (go_at_call 16; refine (wakes_any _).mono ?_; rintro e w1 ⟨rfl, h1⟩; replace hb := below_step hb h1; clear h1))
                go_roundw
                case rel => exact ⟨j + 1, by omega, by omega, by go_num, hb⟩
                case measure => simp [intOf]; omega
              · clear hj0 hj1
                go_wp2_with (first | (go_at_call 9; refine (kids_any _ _).mono ?_; rintro e w1 ⟨rfl, h1⟩; replace hb := below_step hb h1; clear h1) | (go_at_call 10; refine (rkids_any _ _).mono ?_; rintro e w1 ⟨rfl, h1⟩; replace hb := below_step hb h1; clear h1) | (go_at_call 8; refine (rletter_any _ _).mono ?_; rintro e w1 ⟨rfl, h1⟩; replace hb := below_step hb h1; clear h1) | (go_at_call 11; refine (binds_any _ _ _).mono ?_; rintro e w1 ⟨rfl, h1⟩; replace hb := below_step hb h1; clear h1) | (go_at_call 12; refine (rbinds_any _ _ _).mono ?_; rintro e w1 ⟨rfl, h1⟩; replace hb := below_step hb h1; clear h1) | (go_at_call 13; refine (leaf_any _ _).mono ?_; rintro e w1 ⟨rfl, h1⟩; replace hb := below_step hb h1; clear h1) | (go_at_call 14; refine (letter_any _ _).mono ?_; rintro e w1 ⟨rfl, h1⟩; replace hb := below_step hb h1; clear h1) | (go_at_call 15; refine (canon_any _ _).mono ?_; rintro e w1 ⟨rfl, h1⟩; replace hb := below_step hb h1; clear h1) | (go_at_call 16; refine (wakes_any _).mono ?_; rintro e w1 ⟨rfl, h1⟩; replace hb := below_step hb h1; clear h1))
                go_roundw
                case rel => exact ⟨k + 1, by omega, by omega, by rw [← N1.out]; rw [if_neg LT.out]; go_num, by rw [← N2.out], by rw [← N3.out]; rw [if_neg CT.out]; go_num, by rw [← N0.out], by go_num, hb⟩
                case measure => simp [intOf]; omega
      · obtain ⟨e1, e2, _, _⟩ := out_let k hi
        obtain ⟨n0, n1, n2, n3⟩ := cnt_out k (by omega)
        have N0 := Lib.hid n0
        have N1 := Lib.hid n1
        have N2 := Lib.hid n2
        have N3 := Lib.hid n3
        have c9 := fun w => kids_any k w
        have c10 := fun w => rkids_any k w
        have c14 := fun w => letter_any k w
        rw [e2] at c9 c10
        rw [e1] at c14
        have C9 := Lib.hid c9
        have C10 := Lib.hid c10
        have C14 := Lib.hid c14
        have ho : k < 1 ∨ 13 < k := by omega
        clear e1 e2 n0 n1 n2 n3 c9 c10 c14 hi
        rcases ho with ho | ho
        all_goals
          go_wp2_with (first | (go_at_call 9; refine (C9.out _).mono ?_; rintro e w1 ⟨rfl, h1⟩; replace hb := below_step hb h1; clear h1) | (go_at_call 10; refine (C10.out _).mono ?_; rintro e w1 ⟨rfl, h1⟩; replace hb := below_step hb h1; clear h1) | (go_at_call 14; refine (C14.out _).mono ?_; rintro e w1 ⟨rfl, h1⟩; replace hb := below_step hb h1; clear h1))
          go_roundw
          case rel => exact ⟨k + 1, by omega, by omega, by rw [N1.out], by rw [N2.out], by rw [N3.out], by rw [N0.out], by go_num, hb⟩
          case measure => simp [intOf]; omega
    · have n0 : kindsC k = 13 := by unfold kindsC; rw [if_neg (by omega), if_pos (by omega)]
      have n1 : leavesC k = 3 := by unfold leavesC; rw [if_neg (by omega), if_pos (by omega)]
      have n2 : bindsC k = 3 := by unfold bindsC; rw [if_neg (by omega), if_neg (by omega), if_neg (by omega)]
      have n3 : canonC k = 7 := by unfold canonC; rw [if_neg (by omega), if_neg (by omega), if_neg (by omega), if_neg (by omega), if_neg (by omega), if_neg (by omega), if_neg (by omega)]
      clear hbd
      rw [n0, n1, n2, n3]
      clear n0 n1 n2 n3
      go_wp2_with (first | (go_at_call 9; refine (kids_any _ _).mono ?_; rintro e w1 ⟨rfl, h1⟩; replace hb := below_step hb h1; clear h1) | (go_at_call 10; refine (rkids_any _ _).mono ?_; rintro e w1 ⟨rfl, h1⟩; replace hb := below_step hb h1; clear h1) | (go_at_call 8; refine (rletter_any _ _).mono ?_; rintro e w1 ⟨rfl, h1⟩; replace hb := below_step hb h1; clear h1) | (go_at_call 11; refine (binds_any _ _ _).mono ?_; rintro e w1 ⟨rfl, h1⟩; replace hb := below_step hb h1; clear h1) | (go_at_call 12; refine (rbinds_any _ _ _).mono ?_; rintro e w1 ⟨rfl, h1⟩; replace hb := below_step hb h1; clear h1) | (go_at_call 13; refine (leaf_any _ _).mono ?_; rintro e w1 ⟨rfl, h1⟩; replace hb := below_step hb h1; clear h1) | (go_at_call 14; refine (letter_any _ _).mono ?_; rintro e w1 ⟨rfl, h1⟩; replace hb := below_step hb h1; clear h1) | (go_at_call 15; refine (canon_any _ _).mono ?_; rintro e w1 ⟨rfl, h1⟩; replace hb := below_step hb h1; clear h1) | (go_at_call 16; refine (wakes_any _).mono ?_; rintro e w1 ⟨rfl, h1⟩; replace hb := below_step hb h1; clear h1))
      go_ret
      exact ⟨rfl, hb⟩

set_option maxHeartbeats 4000000 in
theorem walk_ab (a0 : Int) (a1 : Int) (F T : Int) (hF : wrap64 ((IntKind.u64.wrap a0).tmod 40) = F) (f0 : 0 ≤ F) (f1 : F ≤ 39) (hT : wrap64 ((IntKind.u64.wrap a1).tmod 60) = T) (t0 : 0 ≤ T) (t1 : T ≤ 59) (hm : F - 10 ≤ 0) (hx : 20 ≤ T) (w : World) :
    Calls Try.prog 6 #[.int .i64 a0, .int .i64 a1] w fun e w' => e = .returned (.bool true) ∧ Below w.heap.size w w' := by
  have hb := Below.refl w.heap.size w
  go_enter Try.func6, Try.ntmps6
  go_wp2_with (first | (go_at_call 9; refine (kids_any _ _).mono ?_; rintro e w1 ⟨rfl, h1⟩; replace hb := below_step hb h1; clear h1) | (go_at_call 10; refine (rkids_any _ _).mono ?_; rintro e w1 ⟨rfl, h1⟩; replace hb := below_step hb h1; clear h1) | (go_at_call 8; refine (rletter_any _ _).mono ?_; rintro e w1 ⟨rfl, h1⟩; replace hb := below_step hb h1; clear h1) | (go_at_call 11; refine (binds_any _ _ _).mono ?_; rintro e w1 ⟨rfl, h1⟩; replace hb := below_step hb h1; clear h1) | (go_at_call 12; refine (rbinds_any _ _ _).mono ?_; rintro e w1 ⟨rfl, h1⟩; replace hb := below_step hb h1; clear h1) | (go_at_call 13; refine (leaf_any _ _).mono ?_; rintro e w1 ⟨rfl, h1⟩; replace hb := below_step hb h1; clear h1) | (go_at_call 14; refine (letter_any _ _).mono ?_; rintro e w1 ⟨rfl, h1⟩; replace hb := below_step hb h1; clear h1) | (go_at_call 15; refine (canon_any _ _).mono ?_; rintro e w1 ⟨rfl, h1⟩; replace hb := below_step hb h1; clear h1) | (go_at_call 16; refine (wakes_any _).mono ?_; rintro e w1 ⟨rfl, h1⟩; replace hb := below_step hb h1; clear h1))
  try rw [hT]
  clear hF hT
  go_loopw [5, 6, 7, 8, 9] (fun a b c d e wr => ∃ k : Int, -10 ≤ k ∧ k ≤ T + 1 ∧ a = .int .i64 (leavesC k) ∧ b = .int .i64 (bindsC k) ∧ c = .int .i64 (canonC k) ∧ d = .int .i64 (kindsC k) ∧ e = .int .i64 k ∧ Below w.heap.size w wr) (fun _ _ _ _ e _ => (T + 1 - intOf e).toNat)
  case atStart => exact ⟨F - 10, by omega, by omega, by rw [show leavesC (F - 10) = 0 from if_pos (by omega)], by rw [show bindsC (F - 10) = 0 from if_pos (by omega)], by rw [show canonC (F - 10) = 0 from if_pos (by omega)], by rw [show kindsC (F - 10) = 0 from if_pos (by omega)], by first | rfl | (congr 1), hb⟩
  case round =>
    clear hb
    obtain ⟨k, hk0, hk1, rfl, rfl, rfl, rfl, rfl, hb⟩ := hrel
    have hbd := cnt_bd k
    by_cases hk : k ≤ T
    · by_cases hi : 1 ≤ k ∧ k ≤ 13
      · have hpos := lett_pos k hi
        have hz : (lettI k == 0) = false := by rw [beq_eq_false_iff_ne]; exact hpos
        have hkn : ¬ kidsI k < 0 := by rw [kids_neg]; omega
        have n := cnt_in k hi
        have N0 := Lib.hid n.1
        have N1 := Lib.hid n.2.1
        have N2 := Lib.hid n.2.2.1
        have N3 := Lib.hid n.2.2.2
        have hb1 := binds_01 k 1
        have d1 : decide (kidsI k < 0) = false := decide_eq_false hkn
        have d2 : decide (k < 1) = false := decide_eq_false (by omega)
        have d3 : decide (13 < k) = false := decide_eq_false (by omega)
        clear n hpos
        obtain ⟨hi1, hi2⟩ := hi
        have hi := Lib.hid (And.intro hi1 hi2)
        by_cases hl : (kidsI k == 0) = true
        · have LT := Lib.hid hl
          by_cases hc : canonB k = true
          · have CT := Lib.hid hc
            go_wp2_with (first | (go_at_call 9; refine (kids_any _ _).mono ?_; rintro e w1 ⟨rfl, h1⟩; replace hb := below_step hb h1; clear h1) | (go_at_call 10; refine (rkids_any _ _).mono ?_; rintro e w1 ⟨rfl, h1⟩; replace hb := below_step hb h1; clear h1) | (go_at_call 8; refine (rletter_any _ _).mono ?_; rintro e w1 ⟨rfl, h1⟩; replace hb := below_step hb h1; clear h1) | (go_at_call 11; refine (binds_any _ _ _).mono ?_; rintro e w1 ⟨rfl, h1⟩; replace hb := below_step hb h1; clear h1) | (go_at_call 12; refine (rbinds_any _ _ _).mono ?_; rintro e w1 ⟨rfl, h1⟩; replace hb := below_step hb h1; clear h1) | (go_at_call 13; refine (leaf_any _ _).mono ?_; rintro e w1 ⟨rfl, h1⟩; replace hb := below_step hb h1; clear h1) | (go_at_call 14; refine (letter_any _ _).mono ?_; rintro e w1 ⟨rfl, h1⟩; replace hb := below_step hb h1; clear h1) | (go_at_call 15; refine (canon_any _ _).mono ?_; rintro e w1 ⟨rfl, h1⟩; replace hb := below_step hb h1; clear h1) | (go_at_call 16; refine (wakes_any _).mono ?_; rintro e w1 ⟨rfl, h1⟩; replace hb := below_step hb h1; clear h1))
            go_loopw [11] (fun a wr => ∃ j : Int, 1 ≤ j ∧ j ≤ k ∧ a = .int .i64 j ∧ Below w.heap.size w wr) (fun a _ => (k - intOf a).toNat)
            case atStart => exact ⟨1, by omega, by omega, rfl, hb⟩
            case round =>
              clear hb
              obtain ⟨j, hj0, hj1, rfl, hb⟩ := hrel
              by_cases hjk : j < k
              · have he : (lettI j == lettI k) = false := by rw [beq_eq_false_iff_ne]; exact fun x => absurd (lett_inj _ _ ⟨hj0, by omega⟩ hi.out x) (by omega)
                go_wp2_with (first | (go_at_call 9; refine (kids_any _ _).mono ?_; rintro e w1 ⟨rfl, h1⟩; replace hb := below_step hb h1; clear h1) | (go_at_call 10; refine (rkids_any _ _).mono ?_; rintro e w1 ⟨rfl, h1⟩; replace hb := below_step hb h1; clear h1) | (go_at_call 8; refine (rletter_any _ _).mono ?_; rintro e w1 ⟨rfl, h1⟩; replace hb := below_step hb h1; clear h1) | (go_at_call 11; refine (binds_any _ _ _).mono ?_; rintro e w1 ⟨rfl, h1⟩; replace hb := below_step hb h1; clear h1) | (go_at_call 12; refine (rbinds_any _ _ _).mono ?_; rintro e w1 ⟨rfl, h1⟩; replace hb := below_step hb h1; clear h1) | (go_at_call 13; refine (leaf_any _ _).mono ?_; rintro e w1 ⟨rfl, h1⟩; replace hb := below_step hb h1; clear h1) | (go_at_call 14; refine (letter_any _ _).mono ?_; rintro e w1 ⟨rfl, h1⟩; replace hb := below_step hb h1; clear h1) | (go_at_call 15; refine (canon_any _ _).mono ?_; rintro e w1 ⟨rfl, h1⟩; replace hb := below_step hb h1; clear h1) | (go_at_call 16; refine (wakes_any _).mono ?_; rintro e w1 ⟨rfl, h1⟩; replace hb := below_step hb h1; clear h1))
                go_roundw
                case rel => exact ⟨j + 1, by omega, by omega, by go_num, hb⟩
                case measure => simp [intOf]; omega
              · clear hj0 hj1
                go_wp2_with (first | (go_at_call 9; refine (kids_any _ _).mono ?_; rintro e w1 ⟨rfl, h1⟩; replace hb := below_step hb h1; clear h1) | (go_at_call 10; refine (rkids_any _ _).mono ?_; rintro e w1 ⟨rfl, h1⟩; replace hb := below_step hb h1; clear h1) | (go_at_call 8; refine (rletter_any _ _).mono ?_; rintro e w1 ⟨rfl, h1⟩; replace hb := below_step hb h1; clear h1) | (go_at_call 11; refine (binds_any _ _ _).mono ?_; rintro e w1 ⟨rfl, h1⟩; replace hb := below_step hb h1; clear h1) | (go_at_call 12; refine (rbinds_any _ _ _).mono ?_; rintro e w1 ⟨rfl, h1⟩; replace hb := below_step hb h1; clear h1) | (go_at_call 13; refine (leaf_any _ _).mono ?_; rintro e w1 ⟨rfl, h1⟩; replace hb := below_step hb h1; clear h1) | (go_at_call 14; refine (letter_any _ _).mono ?_; rintro e w1 ⟨rfl, h1⟩; replace hb := below_step hb h1; clear h1) | (go_at_call 15; refine (canon_any _ _).mono ?_; rintro e w1 ⟨rfl, h1⟩; replace hb := below_step hb h1; clear h1) | (go_at_call 16; refine (wakes_any _).mono ?_; rintro e w1 ⟨rfl, h1⟩; replace hb := below_step hb h1; clear h1))
                go_roundw
                case rel => exact ⟨k + 1, by omega, by omega, by rw [← N1.out]; rw [if_pos LT.out], by rw [← N2.out], by rw [← N3.out]; rw [if_pos CT.out], by rw [← N0.out], by go_num, hb⟩
                case measure => simp [intOf]; omega
          · have CT := Lib.hid hc
            replace hc := Bool.eq_false_iff.mpr hc
            go_wp2_with (first | (go_at_call 9; refine (kids_any _ _).mono ?_; rintro e w1 ⟨rfl, h1⟩; replace hb := below_step hb h1; clear h1) | (go_at_call 10; refine (rkids_any _ _).mono ?_; rintro e w1 ⟨rfl, h1⟩; replace hb := below_step hb h1; clear h1) | (go_at_call 8; refine (rletter_any _ _).mono ?_; rintro e w1 ⟨rfl, h1⟩; replace hb := below_step hb h1; clear h1) | (go_at_call 11; refine (binds_any _ _ _).mono ?_; rintro e w1 ⟨rfl, h1⟩; replace hb := below_step hb h1; clear h1) | (go_at_call 12; refine (rbinds_any _ _ _).mono ?_; rintro e w1 ⟨rfl, h1⟩; replace hb := below_step hb h1; clear h1) | (go_at_call 13; refine (leaf_any _ _).mono ?_; rintro e w1 ⟨rfl, h1⟩; replace hb := below_step hb h1; clear h1) | (go_at_call 14; refine (letter_any _ _).mono ?_; rintro e w1 ⟨rfl, h1⟩; replace hb := below_step hb h1; clear h1) | (go_at_call 15; refine (canon_any _ _).mono ?_; rintro e w1 ⟨rfl, h1⟩; replace hb := below_step hb h1; clear h1) | (go_at_call 16; refine (wakes_any _).mono ?_; rintro e w1 ⟨rfl, h1⟩; replace hb := below_step hb h1; clear h1))
            go_loopw [11] (fun a wr => ∃ j : Int, 1 ≤ j ∧ j ≤ k ∧ a = .int .i64 j ∧ Below w.heap.size w wr) (fun a _ => (k - intOf a).toNat)
            case atStart => exact ⟨1, by omega, by omega, rfl, hb⟩
            case round =>
              clear hb
              obtain ⟨j, hj0, hj1, rfl, hb⟩ := hrel
              by_cases hjk : j < k
              · have he : (lettI j == lettI k) = false := by rw [beq_eq_false_iff_ne]; exact fun x => absurd (lett_inj _ _ ⟨hj0, by omega⟩ hi.out x) (by omega)
                go_wp2_with (first | (go_at_call 9; refine (kids_any _ _).mono ?_; rintro e w1 ⟨rfl, h1⟩; replace hb := below_step hb h1; clear h1) | (go_at_call 10; refine (rkids_any _ _).mono ?_; rintro e w1 ⟨rfl, h1⟩; replace hb := below_step hb h1; clear h1) | (go_at_call 8; refine (rletter_any _ _).mono ?_; rintro e w1 ⟨rfl, h1⟩; replace hb := below_step hb h1; clear h1) | (go_at_call 11; refine (binds_any _ _ _).mono ?_; rintro e w1 ⟨rfl, h1⟩; replace hb := below_step hb h1; clear h1) | (go_at_call 12; refine (rbinds_any _ _ _).mono ?_; rintro e w1 ⟨rfl, h1⟩; replace hb := below_step hb h1; clear h1) | (go_at_call 13; refine (leaf_any _ _).mono ?_; rintro e w1 ⟨rfl, h1⟩; replace hb := below_step hb h1; clear h1) | (go_at_call 14; refine (letter_any _ _).mono ?_; rintro e w1 ⟨rfl, h1⟩; replace hb := below_step hb h1; clear h1) | (go_at_call 15; refine (canon_any _ _).mono ?_; rintro e w1 ⟨rfl, h1⟩; replace hb := below_step hb h1; clear h1) | (go_at_call 16; refine (wakes_any _).mono ?_; rintro e w1 ⟨rfl, h1⟩; replace hb := below_step hb h1; clear h1))
                go_roundw
                case rel => exact ⟨j + 1, by omega, by omega, by go_num, hb⟩
                case measure => simp [intOf]; omega
              · clear hj0 hj1
                go_wp2_with (first | (go_at_call 9; refine (kids_any _ _).mono ?_; rintro e w1 ⟨rfl, h1⟩; replace hb := below_step hb h1; clear h1) | (go_at_call 10; refine (rkids_any _ _).mono ?_; rintro e w1 ⟨rfl, h1⟩; replace hb := below_step hb h1; clear h1) | (go_at_call 8; refine (rletter_any _ _).mono ?_; rintro e w1 ⟨rfl, h1⟩; replace hb := below_step hb h1; clear h1) | (go_at_call 11; refine (binds_any _ _ _).mono ?_; rintro e w1 ⟨rfl, h1⟩; replace hb := below_step hb h1; clear h1) | (go_at_call 12; refine (rbinds_any _ _ _).mono ?_; rintro e w1 ⟨rfl, h1⟩; replace hb := below_step hb h1; clear h1) | (go_at_call 13; refine (leaf_any _ _).mono ?_; rintro e w1 ⟨rfl, h1⟩; replace hb := below_step hb h1; clear h1) | (go_at_call 14; refine (letter_any _ _).mono ?_; rintro e w1 ⟨rfl, h1⟩; replace hb := below_step hb h1; clear h1) | (go_at_call 15; refine (canon_any _ _).mono ?_; rintro e w1 ⟨rfl, h1⟩; replace hb := below_step hb h1; clear h1) | (go_at_call 16; refine (wakes_any _).mono ?_; rintro e w1 ⟨rfl, h1⟩; replace hb := below_step hb h1; clear h1))
                go_roundw
                case rel => exact ⟨k + 1, by omega, by omega, by rw [← N1.out]; rw [if_pos LT.out], by rw [← N2.out], by rw [← N3.out]; rw [if_neg CT.out]; go_num, by rw [← N0.out], by go_num, hb⟩
                case measure => simp [intOf]; omega
        · have LT := Lib.hid hl
          replace hl := Bool.eq_false_iff.mpr hl
          by_cases hc : canonB k = true
          · have CT := Lib.hid hc
            go_wp2_with (first | (go_at_call 9; refine (kids_any _ _).mono ?_; rintro e w1 ⟨rfl, h1⟩; replace hb := below_step hb h1; clear h1) | (go_at_call 10; refine (rkids_any _ _).mono ?_; rintro e w1 ⟨rfl, h1⟩; replace hb := below_step hb h1; clear h1) | (go_at_call 8; refine (rletter_any _ _).mono ?_; rintro e w1 ⟨rfl, h1⟩; replace hb := below_step hb h1; clear h1) | (go_at_call 11; refine (binds_any _ _ _).mono ?_; rintro e w1 ⟨rfl, h1⟩; replace hb := below_step hb h1; clear h1) | (go_at_call 12; refine (rbinds_any _ _ _).mono ?_; rintro e w1 ⟨rfl, h1⟩; replace hb := below_step hb h1; clear h1) | (go_at_call 13; refine (leaf_any _ _).mono ?_; rintro e w1 ⟨rfl, h1⟩; replace hb := below_step hb h1; clear h1) | (go_at_call 14; refine (letter_any _ _).mono ?_; rintro e w1 ⟨rfl, h1⟩; replace hb := below_step hb h1; clear h1) | (go_at_call 15; refine (canon_any _ _).mono ?_; rintro e w1 ⟨rfl, h1⟩; replace hb := below_step hb h1; clear h1) | (go_at_call 16; refine (wakes_any _).mono ?_; rintro e w1 ⟨rfl, h1⟩; replace hb := below_step hb h1; clear h1))
            go_loopw [11] (fun a wr => ∃ j : Int, 1 ≤ j ∧ j ≤ k ∧ a = .int .i64 j ∧ Below w.heap.size w wr) (fun a _ => (k - intOf a).toNat)
            case atStart => exact ⟨1, by omega, by omega, rfl, hb⟩
            case round =>
              clear hb
              obtain ⟨j, hj0, hj1, rfl, hb⟩ := hrel
              by_cases hjk : j < k
              · have he : (lettI j == lettI k) = false := by rw [beq_eq_false_iff_ne]; exact fun x => absurd (lett_inj _ _ ⟨hj0, by omega⟩ hi.out x) (by omega)
                go_wp2_with (first | (go_at_call 9; refine (kids_any _ _).mono ?_; rintro e w1 ⟨rfl, h1⟩; replace hb := below_step hb h1; clear h1) | (go_at_call 10; refine (rkids_any _ _).mono ?_; rintro e w1 ⟨rfl, h1⟩; replace hb := below_step hb h1; clear h1) | (go_at_call 8; refine (rletter_any _ _).mono ?_; rintro e w1 ⟨rfl, h1⟩; replace hb := below_step hb h1; clear h1) | (go_at_call 11; refine (binds_any _ _ _).mono ?_; rintro e w1 ⟨rfl, h1⟩; replace hb := below_step hb h1; clear h1) | (go_at_call 12; refine (rbinds_any _ _ _).mono ?_; rintro e w1 ⟨rfl, h1⟩; replace hb := below_step hb h1; clear h1) | (go_at_call 13; refine (leaf_any _ _).mono ?_; rintro e w1 ⟨rfl, h1⟩; replace hb := below_step hb h1; clear h1) | (go_at_call 14; refine (letter_any _ _).mono ?_; rintro e w1 ⟨rfl, h1⟩; replace hb := below_step hb h1; clear h1) | (go_at_call 15; refine (canon_any _ _).mono ?_; rintro e w1 ⟨rfl, h1⟩; replace hb := below_step hb h1; clear h1) | (go_at_call 16; refine (wakes_any _).mono ?_; rintro e w1 ⟨rfl, h1⟩; replace hb := below_step hb h1; clear h1))
                go_roundw
                case rel => exact ⟨j + 1, by omega, by omega, by go_num, hb⟩
                case measure => simp [intOf]; omega
              · clear hj0 hj1
                go_wp2_with (first | (go_at_call 9; refine (kids_any _ _).mono ?_; rintro e w1 ⟨rfl, h1⟩; replace hb := below_step hb h1; clear h1) | (go_at_call 10; refine (rkids_any _ _).mono ?_; rintro e w1 ⟨rfl, h1⟩; replace hb := below_step hb h1; clear h1) | (go_at_call 8; refine (rletter_any _ _).mono ?_; rintro e w1 ⟨rfl, h1⟩; replace hb := below_step hb h1; clear h1) | (go_at_call 11; refine (binds_any _ _ _).mono ?_; rintro e w1 ⟨rfl, h1⟩; replace hb := below_step hb h1; clear h1) | (go_at_call 12; refine (rbinds_any _ _ _).mono ?_; rintro e w1 ⟨rfl, h1⟩; replace hb := below_step hb h1; clear h1) | (go_at_call 13; refine (leaf_any _ _).mono ?_; rintro e w1 ⟨rfl, h1⟩; replace hb := below_step hb h1; clear h1) | (go_at_call 14; refine (letter_any _ _).mono ?_; rintro e w1 ⟨rfl, h1⟩; replace hb := below_step hb h1; clear h1) | (go_at_call 15; refine (canon_any _ _).mono ?_; rintro e w1 ⟨rfl, h1⟩; replace hb := below_step hb h1; clear h1) | (go_at_call 16; refine (wakes_any _).mono ?_; rintro e w1 ⟨rfl, h1⟩; replace hb := below_step hb h1; clear h1))
                go_roundw
                case rel => exact ⟨k + 1, by omega, by omega, by rw [← N1.out]; rw [if_neg LT.out]; go_num, by rw [← N2.out], by rw [← N3.out]; rw [if_pos CT.out], by rw [← N0.out], by go_num, hb⟩
                case measure => simp [intOf]; omega
          · have CT := Lib.hid hc
            replace hc := Bool.eq_false_iff.mpr hc
            go_wp2_with (first | (go_at_call 9; refine (kids_any _ _).mono ?_; rintro e w1 ⟨rfl, h1⟩; replace hb := below_step hb h1; clear h1) | (go_at_call 10; refine (rkids_any _ _).mono ?_; rintro e w1 ⟨rfl, h1⟩; replace hb := below_step hb h1; clear h1) | (go_at_call 8; refine (rletter_any _ _).mono ?_; rintro e w1 ⟨rfl, h1⟩; replace hb := below_step hb h1; clear h1) | (go_at_call 11; refine (binds_any _ _ _).mono ?_; rintro e w1 ⟨rfl, h1⟩; replace hb := below_step hb h1; clear h1) | (go_at_call 12; refine (rbinds_any _ _ _).mono ?_; rintro e w1 ⟨rfl, h1⟩; replace hb := below_step hb h1; clear h1) | (go_at_call 13; refine (leaf_any _ _).mono ?_; rintro e w1 ⟨rfl, h1⟩; replace hb := below_step hb h1; clear h1) | (go_at_call 14; refine (letter_any _ _).mono ?_; rintro e w1 ⟨rfl, h1⟩; replace hb := below_step hb h1; clear h1) | (go_at_call 15; refine (canon_any _ _).mono ?_; rintro e w1 ⟨rfl, h1⟩; replace hb := below_step hb h1; clear h1) | (go_at_call 16; refine (wakes_any _).mono ?_; rintro e w1 ⟨rfl, h1⟩; replace hb := below_step hb h1; clear h1))
            go_loopw [11] (fun a wr => ∃ j : Int, 1 ≤ j ∧ j ≤ k ∧ a = .int .i64 j ∧ Below w.heap.size w wr) (fun a _ => (k - intOf a).toNat)
            case atStart => exact ⟨1, by omega, by omega, rfl, hb⟩
            case round =>
              clear hb
              obtain ⟨j, hj0, hj1, rfl, hb⟩ := hrel
              by_cases hjk : j < k
              · have he : (lettI j == lettI k) = false := by rw [beq_eq_false_iff_ne]; exact fun x => absurd (lett_inj _ _ ⟨hj0, by omega⟩ hi.out x) (by omega)
                go_wp2_with (first | (go_at_call 9; refine (kids_any _ _).mono ?_; rintro e w1 ⟨rfl, h1⟩; replace hb := below_step hb h1; clear h1) | (go_at_call 10; refine (rkids_any _ _).mono ?_; rintro e w1 ⟨rfl, h1⟩; replace hb := below_step hb h1; clear h1) | (go_at_call 8; refine (rletter_any _ _).mono ?_; rintro e w1 ⟨rfl, h1⟩; replace hb := below_step hb h1; clear h1) | (go_at_call 11; refine (binds_any _ _ _).mono ?_; rintro e w1 ⟨rfl, h1⟩; replace hb := below_step hb h1; clear h1) | (go_at_call 12; refine (rbinds_any _ _ _).mono ?_; rintro e w1 ⟨rfl, h1⟩; replace hb := below_step hb h1; clear h1) | (go_at_call 13; refine (leaf_any _ _).mono ?_; rintro e w1 ⟨rfl, h1⟩; replace hb := below_step hb h1; clear h1) | (go_at_call 14; refine (letter_any _ _).mono ?_; rintro e w1 ⟨rfl, h1⟩; replace hb := below_step hb h1; clear h1) | (go_at_call 15; refine (canon_any _ _).mono ?_; rintro e w1 ⟨rfl, h1⟩; replace hb := below_step hb h1; clear h1) | (go_at_call 16; refine (wakes_any _).mono ?_; rintro e w1 ⟨rfl, h1⟩; replace hb := below_step hb h1; clear h1))
                go_roundw
                case rel => exact ⟨j + 1, by omega, by omega, by go_num, hb⟩
                case measure => simp [intOf]; omega
              · clear hj0 hj1
                go_wp2_with (first | (go_at_call 9; refine (kids_any _ _).mono ?_; rintro e w1 ⟨rfl, h1⟩; replace hb := below_step hb h1; clear h1) | (go_at_call 10; refine (rkids_any _ _).mono ?_; rintro e w1 ⟨rfl, h1⟩; replace hb := below_step hb h1; clear h1) | (go_at_call 8; refine (rletter_any _ _).mono ?_; rintro e w1 ⟨rfl, h1⟩; replace hb := below_step hb h1; clear h1) | (go_at_call 11; refine (binds_any _ _ _).mono ?_; rintro e w1 ⟨rfl, h1⟩; replace hb := below_step hb h1; clear h1) | (go_at_call 12; refine (rbinds_any _ _ _).mono ?_; rintro e w1 ⟨rfl, h1⟩; replace hb := below_step hb h1; clear h1) | (go_at_call 13; refine (leaf_any _ _).mono ?_; rintro e w1 ⟨rfl, h1⟩; replace hb := below_step hb h1; clear h1) | (go_at_call 14; refine (letter_any _ _).mono ?_; rintro e w1 ⟨rfl, h1⟩; replace hb := below_step hb h1; clear h1) | (go_at_call 15; refine (canon_any _ _).mono ?_; rintro e w1 ⟨rfl, h1⟩; replace hb := below_step hb h1; clear h1) | (go_at_call 16; refine (wakes_any _).mono ?_; rintro e w1 ⟨rfl, h1⟩; replace hb := below_step hb h1; clear h1))
                go_roundw
                case rel => exact ⟨k + 1, by omega, by omega, by rw [← N1.out]; rw [if_neg LT.out]; go_num, by rw [← N2.out], by rw [← N3.out]; rw [if_neg CT.out]; go_num, by rw [← N0.out], by go_num, hb⟩
                case measure => simp [intOf]; omega
      · obtain ⟨e1, e2, _, _⟩ := out_let k hi
        obtain ⟨n0, n1, n2, n3⟩ := cnt_out k (by omega)
        have N0 := Lib.hid n0
        have N1 := Lib.hid n1
        have N2 := Lib.hid n2
        have N3 := Lib.hid n3
        have c9 := fun w => kids_any k w
        have c10 := fun w => rkids_any k w
        have c14 := fun w => letter_any k w
        rw [e2] at c9 c10
        rw [e1] at c14
        have C9 := Lib.hid c9
        have C10 := Lib.hid c10
        have C14 := Lib.hid c14
        have ho : k < 1 ∨ 13 < k := by omega
        clear e1 e2 n0 n1 n2 n3 c9 c10 c14 hi
        rcases ho with ho | ho
        all_goals
          go_wp2_with (first | (go_at_call 9; refine (C9.out _).mono ?_; rintro e w1 ⟨rfl, h1⟩; replace hb := below_step hb h1; clear h1) | (go_at_call 10; refine (C10.out _).mono ?_; rintro e w1 ⟨rfl, h1⟩; replace hb := below_step hb h1; clear h1) | (go_at_call 14; refine (C14.out _).mono ?_; rintro e w1 ⟨rfl, h1⟩; replace hb := below_step hb h1; clear h1))
          go_roundw
          case rel => exact ⟨k + 1, by omega, by omega, by rw [N1.out], by rw [N2.out], by rw [N3.out], by rw [N0.out], by go_num, hb⟩
          case measure => simp [intOf]; omega
    · have n0 : kindsC k = 13 := by unfold kindsC; rw [if_neg (by omega), if_pos (by omega)]
      have n1 : leavesC k = 3 := by unfold leavesC; rw [if_neg (by omega), if_pos (by omega)]
      have n2 : bindsC k = 3 := by unfold bindsC; rw [if_neg (by omega), if_neg (by omega), if_neg (by omega)]
      have n3 : canonC k = 7 := by unfold canonC; rw [if_neg (by omega), if_neg (by omega), if_neg (by omega), if_neg (by omega), if_neg (by omega), if_neg (by omega), if_neg (by omega)]
      clear hbd
      rw [n0, n1, n2, n3]
      clear n0 n1 n2 n3
      go_wp2_with (first | (go_at_call 9; refine (kids_any _ _).mono ?_; rintro e w1 ⟨rfl, h1⟩; replace hb := below_step hb h1; clear h1) | (go_at_call 10; refine (rkids_any _ _).mono ?_; rintro e w1 ⟨rfl, h1⟩; replace hb := below_step hb h1; clear h1) | (go_at_call 8; refine (rletter_any _ _).mono ?_; rintro e w1 ⟨rfl, h1⟩; replace hb := below_step hb h1; clear h1) | (go_at_call 11; refine (binds_any _ _ _).mono ?_; rintro e w1 ⟨rfl, h1⟩; replace hb := below_step hb h1; clear h1) | (go_at_call 12; refine (rbinds_any _ _ _).mono ?_; rintro e w1 ⟨rfl, h1⟩; replace hb := below_step hb h1; clear h1) | (go_at_call 13; refine (leaf_any _ _).mono ?_; rintro e w1 ⟨rfl, h1⟩; replace hb := below_step hb h1; clear h1) | (go_at_call 14; refine (letter_any _ _).mono ?_; rintro e w1 ⟨rfl, h1⟩; replace hb := below_step hb h1; clear h1) | (go_at_call 15; refine (canon_any _ _).mono ?_; rintro e w1 ⟨rfl, h1⟩; replace hb := below_step hb h1; clear h1) | (go_at_call 16; refine (wakes_any _).mono ?_; rintro e w1 ⟨rfl, h1⟩; replace hb := below_step hb h1; clear h1))
      go_ret
      exact ⟨rfl, hb⟩

set_option maxHeartbeats 4000000 in
theorem walk_ba (a0 : Int) (a1 : Int) (F T : Int) (hF : wrap64 ((IntKind.u64.wrap a0).tmod 40) = F) (f0 : 0 ≤ F) (f1 : F ≤ 39) (hT : wrap64 ((IntKind.u64.wrap a1).tmod 60) = T) (t0 : 0 ≤ T) (t1 : T ≤ 59) (hm : 0 < F - 10) (hx : T < 20) (w : World) :
    Calls Try.prog 6 #[.int .i64 a0, .int .i64 a1] w fun e w' => e = .returned (.bool true) ∧ Below w.heap.size w w' := by
  have hb := Below.refl w.heap.size w
  go_enter Try.func6, Try.ntmps6
  go_wp2_with (first | (go_at_call 9; refine (kids_any _ _).mono ?_; rintro e w1 ⟨rfl, h1⟩; replace hb := below_step hb h1; clear h1) | (go_at_call 10; refine (rkids_any _ _).mono ?_; rintro e w1 ⟨rfl, h1⟩; replace hb := below_step hb h1; clear h1) | (go_at_call 8; refine (rletter_any _ _).mono ?_; rintro e w1 ⟨rfl, h1⟩; replace hb := below_step hb h1; clear h1) | (go_at_call 11; refine (binds_any _ _ _).mono ?_; rintro e w1 ⟨rfl, h1⟩; replace hb := below_step hb h1; clear h1) | (go_at_call 12; refine (rbinds_any _ _ _).mono ?_; rintro e w1 ⟨rfl, h1⟩; replace hb := below_step hb h1; clear h1) | (go_at_call 13; refine (leaf_any _ _).mono ?_; rintro e w1 ⟨rfl, h1⟩; replace hb := below_step hb h1; clear h1) | (go_at_call 14; refine (letter_any _ _).mono ?_; rintro e w1 ⟨rfl, h1⟩; replace hb := below_step hb h1; clear h1) | (go_at_call 15; refine (canon_any _ _).mono ?_; rintro e w1 ⟨rfl, h1⟩; replace hb := below_step hb h1; clear h1) | (go_at_call 16; refine (wakes_any _).mono ?_; rintro e w1 ⟨rfl, h1⟩; replace hb := below_step hb h1; clear h1))
  try rw [hT]
  clear hF hT
  go_loopw [5, 6, 7, 8, 9] (fun a b c d e wr => ∃ k : Int, -10 ≤ k ∧ k ≤ 20 + 1 ∧ a = .int .i64 (leavesC k) ∧ b = .int .i64 (bindsC k) ∧ c = .int .i64 (canonC k) ∧ d = .int .i64 (kindsC k) ∧ e = .int .i64 k ∧ Below w.heap.size w wr) (fun _ _ _ _ e _ => (20 + 1 - intOf e).toNat)
  case atStart => exact ⟨0, by omega, by omega, by rw [show leavesC (0) = 0 from if_pos (by omega)], by rw [show bindsC (0) = 0 from if_pos (by omega)], by rw [show canonC (0) = 0 from if_pos (by omega)], by rw [show kindsC (0) = 0 from if_pos (by omega)], by first | rfl | (congr 1), hb⟩
  case round =>
    clear hb
    obtain ⟨k, hk0, hk1, rfl, rfl, rfl, rfl, rfl, hb⟩ := hrel
    have hbd := cnt_bd k
    by_cases hk : k ≤ 20
    · by_cases hi : 1 ≤ k ∧ k ≤ 13
      · have hpos := lett_pos k hi
        have hz : (lettI k == 0) = false := by rw [beq_eq_false_iff_ne]; exact hpos
        have hkn : ¬ kidsI k < 0 := by rw [kids_neg]; omega
        have n := cnt_in k hi
        have N0 := Lib.hid n.1
        have N1 := Lib.hid n.2.1
        have N2 := Lib.hid n.2.2.1
        have N3 := Lib.hid n.2.2.2
        have hb1 := binds_01 k 1
        have d1 : decide (kidsI k < 0) = false := decide_eq_false hkn
        have d2 : decide (k < 1) = false := decide_eq_false (by omega)
        have d3 : decide (13 < k) = false := decide_eq_false (by omega)
        clear n hpos
        obtain ⟨hi1, hi2⟩ := hi
        have hi := Lib.hid (And.intro hi1 hi2)
        by_cases hl : (kidsI k == 0) = true
        · have LT := Lib.hid hl
          by_cases hc : canonB k = true
          · have CT := Lib.hid hc
            go_wp2_with (first | (go_at_call 9; refine (kids_any _ _).mono ?_; rintro e w1 ⟨rfl, h1⟩; replace hb := below_step hb h1; clear h1) | (go_at_call 10; refine (rkids_any _ _).mono ?_; rintro e w1 ⟨rfl, h1⟩; replace hb := below_step hb h1; clear h1) | (go_at_call 8; refine (rletter_any _ _).mono ?_; rintro e w1 ⟨rfl, h1⟩; replace hb := below_step hb h1; clear h1) | (go_at_call 11; refine (binds_any _ _ _).mono ?_; rintro e w1 ⟨rfl, h1⟩; replace hb := below_step hb h1; clear h1) | (go_at_call 12; refine (rbinds_any _ _ _).mono ?_; rintro e w1 ⟨rfl, h1⟩; replace hb := below_step hb h1; clear h1) | (go_at_call 13; refine (leaf_any _ _).mono ?_; rintro e w1 ⟨rfl, h1⟩; replace hb := below_step hb h1; clear h1) | (go_at_call 14; refine (letter_any _ _).mono ?_; rintro e w1 ⟨rfl, h1⟩; replace hb := below_step hb h1; clear h1) | (go_at_call 15; refine (canon_any _ _).mono ?_; rintro e w1 ⟨rfl, h1⟩; replace hb := below_step hb h1; clear h1) | (go_at_call 16; refine (wakes_any _).mono ?_; rintro e w1 ⟨rfl, h1⟩; replace hb := below_step hb h1; clear h1))
            go_loopw [11] (fun a wr => ∃ j : Int, 1 ≤ j ∧ j ≤ k ∧ a = .int .i64 j ∧ Below w.heap.size w wr) (fun a _ => (k - intOf a).toNat)
            case atStart => exact ⟨1, by omega, by omega, rfl, hb⟩
            case round =>
              clear hb
              obtain ⟨j, hj0, hj1, rfl, hb⟩ := hrel
              by_cases hjk : j < k
              · have he : (lettI j == lettI k) = false := by rw [beq_eq_false_iff_ne]; exact fun x => absurd (lett_inj _ _ ⟨hj0, by omega⟩ hi.out x) (by omega)
                go_wp2_with (first | (go_at_call 9; refine (kids_any _ _).mono ?_; rintro e w1 ⟨rfl, h1⟩; replace hb := below_step hb h1; clear h1) | (go_at_call 10; refine (rkids_any _ _).mono ?_; rintro e w1 ⟨rfl, h1⟩; replace hb := below_step hb h1; clear h1) | (go_at_call 8; refine (rletter_any _ _).mono ?_; rintro e w1 ⟨rfl, h1⟩; replace hb := below_step hb h1; clear h1) | (go_at_call 11; refine (binds_any _ _ _).mono ?_; rintro e w1 ⟨rfl, h1⟩; replace hb := below_step hb h1; clear h1) | (go_at_call 12; refine (rbinds_any _ _ _).mono ?_; rintro e w1 ⟨rfl, h1⟩; replace hb := below_step hb h1; clear h1) | (go_at_call 13; refine (leaf_any _ _).mono ?_; rintro e w1 ⟨rfl, h1⟩; replace hb := below_step hb h1; clear h1) | (go_at_call 14; refine (letter_any _ _).mono ?_; rintro e w1 ⟨rfl, h1⟩; replace hb := below_step hb h1; clear h1) | (go_at_call 15; refine (canon_any _ _).mono ?_; rintro e w1 ⟨rfl, h1⟩; replace hb := below_step hb h1; clear h1) | (go_at_call 16; refine (wakes_any _).mono ?_; rintro e w1 ⟨rfl, h1⟩; replace hb := below_step hb h1; clear h1))
                go_roundw
                case rel => exact ⟨j + 1, by omega, by omega, by go_num, hb⟩
                case measure => simp [intOf]; omega
              · clear hj0 hj1
                go_wp2_with (first | (go_at_call 9; refine (kids_any _ _).mono ?_; rintro e w1 ⟨rfl, h1⟩; replace hb := below_step hb h1; clear h1) | (go_at_call 10; refine (rkids_any _ _).mono ?_; rintro e w1 ⟨rfl, h1⟩; replace hb := below_step hb h1; clear h1) | (go_at_call 8; refine (rletter_any _ _).mono ?_; rintro e w1 ⟨rfl, h1⟩; replace hb := below_step hb h1; clear h1) | (go_at_call 11; refine (binds_any _ _ _).mono ?_; rintro e w1 ⟨rfl, h1⟩; replace hb := below_step hb h1; clear h1) | (go_at_call 12; refine (rbinds_any _ _ _).mono ?_; rintro e w1 ⟨rfl, h1⟩; replace hb := below_step hb h1; clear h1) | (go_at_call 13; refine (leaf_any _ _).mono ?_; rintro e w1 ⟨rfl, h1⟩; replace hb := below_step hb h1; clear h1) | (go_at_call 14; refine (letter_any _ _).mono ?_; rintro e w1 ⟨rfl, h1⟩; replace hb := below_step hb h1; clear h1) | (go_at_call 15; refine (canon_any _ _).mono ?_; rintro e w1 ⟨rfl, h1⟩; replace hb := below_step hb h1; clear h1) | (go_at_call 16; refine (wakes_any _).mono ?_; rintro e w1 ⟨rfl, h1⟩; replace hb := below_step hb h1; clear h1))
                go_roundw
                case rel => exact ⟨k + 1, by omega, by omega, by rw [← N1.out]; rw [if_pos LT.out], by rw [← N2.out], by rw [← N3.out]; rw [if_pos CT.out], by rw [← N0.out], by go_num, hb⟩
                case measure => simp [intOf]; omega
          · have CT := Lib.hid hc
            replace hc := Bool.eq_false_iff.mpr hc
            go_wp2_with (first | (go_at_call 9; refine (kids_any _ _).mono ?_; rintro e w1 ⟨rfl, h1⟩; replace hb := below_step hb h1; clear h1) | (go_at_call 10; refine (rkids_any _ _).mono ?_; rintro e w1 ⟨rfl, h1⟩; replace hb := below_step hb h1; clear h1) | (go_at_call 8; refine (rletter_any _ _).mono ?_; rintro e w1 ⟨rfl, h1⟩; replace hb := below_step hb h1; clear h1) | (go_at_call 11; refine (binds_any _ _ _).mono ?_; rintro e w1 ⟨rfl, h1⟩; replace hb := below_step hb h1; clear h1) | (go_at_call 12; refine (rbinds_any _ _ _).mono ?_; rintro e w1 ⟨rfl, h1⟩; replace hb := below_step hb h1; clear h1) | (go_at_call 13; refine (leaf_any _ _).mono ?_; rintro e w1 ⟨rfl, h1⟩; replace hb := below_step hb h1; clear h1) | (go_at_call 14; refine (letter_any _ _).mono ?_; rintro e w1 ⟨rfl, h1⟩; replace hb := below_step hb h1; clear h1) | (go_at_call 15; refine (canon_any _ _).mono ?_; rintro e w1 ⟨rfl, h1⟩; replace hb := below_step hb h1; clear h1) | (go_at_call 16; refine (wakes_any _).mono ?_; rintro e w1 ⟨rfl, h1⟩; replace hb := below_step hb h1; clear h1))
            go_loopw [11] (fun a wr => ∃ j : Int, 1 ≤ j ∧ j ≤ k ∧ a = .int .i64 j ∧ Below w.heap.size w wr) (fun a _ => (k - intOf a).toNat)
            case atStart => exact ⟨1, by omega, by omega, rfl, hb⟩
            case round =>
              clear hb
              obtain ⟨j, hj0, hj1, rfl, hb⟩ := hrel
              by_cases hjk : j < k
              · have he : (lettI j == lettI k) = false := by rw [beq_eq_false_iff_ne]; exact fun x => absurd (lett_inj _ _ ⟨hj0, by omega⟩ hi.out x) (by omega)
                go_wp2_with (first | (go_at_call 9; refine (kids_any _ _).mono ?_; rintro e w1 ⟨rfl, h1⟩; replace hb := below_step hb h1; clear h1) | (go_at_call 10; refine (rkids_any _ _).mono ?_; rintro e w1 ⟨rfl, h1⟩; replace hb := below_step hb h1; clear h1) | (go_at_call 8; refine (rletter_any _ _).mono ?_; rintro e w1 ⟨rfl, h1⟩; replace hb := below_step hb h1; clear h1) | (go_at_call 11; refine (binds_any _ _ _).mono ?_; rintro e w1 ⟨rfl, h1⟩; replace hb := below_step hb h1; clear h1) | (go_at_call 12; refine (rbinds_any _ _ _).mono ?_; rintro e w1 ⟨rfl, h1⟩; replace hb := below_step hb h1; clear h1) | (go_at_call 13; refine (leaf_any _ _).mono ?_; rintro e w1 ⟨rfl, h1⟩; replace hb := below_step hb h1; clear h1) | (go_at_call 14; refine (letter_any _ _).mono ?_; rintro e w1 ⟨rfl, h1⟩; replace hb := below_step hb h1; clear h1) | (go_at_call 15; refine (canon_any _ _).mono ?_; rintro e w1 ⟨rfl, h1⟩; replace hb := below_step hb h1; clear h1) | (go_at_call 16; refine (wakes_any _).mono ?_; rintro e w1 ⟨rfl, h1⟩; replace hb := below_step hb h1; clear h1))
                go_roundw
                case rel => exact ⟨j + 1, by omega, by omega, by go_num, hb⟩
                case measure => simp [intOf]; omega
              · clear hj0 hj1
                go_wp2_with (first | (go_at_call 9; refine (kids_any _ _).mono ?_; rintro e w1 ⟨rfl, h1⟩; replace hb := below_step hb h1; clear h1) | (go_at_call 10; refine (rkids_any _ _).mono ?_; rintro e w1 ⟨rfl, h1⟩; replace hb := below_step hb h1; clear h1) | (go_at_call 8; refine (rletter_any _ _).mono ?_; rintro e w1 ⟨rfl, h1⟩; replace hb := below_step hb h1; clear h1) | (go_at_call 11; refine (binds_any _ _ _).mono ?_; rintro e w1 ⟨rfl, h1⟩; replace hb := below_step hb h1; clear h1) | (go_at_call 12; refine (rbinds_any _ _ _).mono ?_; rintro e w1 ⟨rfl, h1⟩; replace hb := below_step hb h1; clear h1) | (go_at_call 13; refine (leaf_any _ _).mono ?_; rintro e w1 ⟨rfl, h1⟩; replace hb := below_step hb h1; clear h1) | (go_at_call 14; refine (letter_any _ _).mono ?_; rintro e w1 ⟨rfl, h1⟩; replace hb := below_step hb h1; clear h1) | (go_at_call 15; refine (canon_any _ _).mono ?_; rintro e w1 ⟨rfl, h1⟩; replace hb := below_step hb h1; clear h1) | (go_at_call 16; refine (wakes_any _).mono ?_; rintro e w1 ⟨rfl, h1⟩; replace hb := below_step hb h1; clear h1))
                go_roundw
                case rel => exact ⟨k + 1, by omega, by omega, by rw [← N1.out]; rw [if_pos LT.out], by rw [← N2.out], by rw [← N3.out]; rw [if_neg CT.out]; go_num, by rw [← N0.out], by go_num, hb⟩
                case measure => simp [intOf]; omega
        · have LT := Lib.hid hl
          replace hl := Bool.eq_false_iff.mpr hl
          by_cases hc : canonB k = true
          · have CT := Lib.hid hc
            go_wp2_with (first | (go_at_call 9; refine (kids_any _ _).mono ?_; rintro e w1 ⟨rfl, h1⟩; replace hb := below_step hb h1; clear h1) | (go_at_call 10; refine (rkids_any _ _).mono ?_; rintro e w1 ⟨rfl, h1⟩; replace hb := below_step hb h1; clear h1) | (go_at_call 8; refine (rletter_any _ _).mono ?_; rintro e w1 ⟨rfl, h1⟩; replace hb := below_step hb h1; clear h1) | (go_at_call 11; refine (binds_any _ _ _).mono ?_; rintro e w1 ⟨rfl, h1⟩; replace hb := below_step hb h1; clear h1) | (go_at_call 12; refine (rbinds_any _ _ _).mono ?_; rintro e w1 ⟨rfl, h1⟩; replace hb := below_step hb h1; clear h1) | (go_at_call 13; refine (leaf_any _ _).mono ?_; rintro e w1 ⟨rfl, h1⟩; replace hb := below_step hb h1; clear h1) | (go_at_call 14; refine (letter_any _ _).mono ?_; rintro e w1 ⟨rfl, h1⟩; replace hb := below_step hb h1; clear h1) | (go_at_call 15; refine (canon_any _ _).mono ?_; rintro e w1 ⟨rfl, h1⟩; replace hb := below_step hb h1; clear h1) | (go_at_call 16; refine (wakes_any _).mono ?_; rintro e w1 ⟨rfl, h1⟩; replace hb := below_step hb h1; clear h1))
            go_loopw [11] (fun a wr => ∃ j : Int, 1 ≤ j ∧ j ≤ k ∧ a = .int .i64 j ∧ Below w.heap.size w wr) (fun a _ => (k - intOf a).toNat)
            case atStart => exact ⟨1, by omega, by omega, rfl, hb⟩
            case round =>
              clear hb
              obtain ⟨j, hj0, hj1, rfl, hb⟩ := hrel
              by_cases hjk : j < k
              · have he : (lettI j == lettI k) = false := by rw [beq_eq_false_iff_ne]; exact fun x => absurd (lett_inj _ _ ⟨hj0, by omega⟩ hi.out x) (by omega)
                go_wp2_with (first | (go_at_call 9; refine (kids_any _ _).mono ?_; rintro e w1 ⟨rfl, h1⟩; replace hb := below_step hb h1; clear h1) | (go_at_call 10; refine (rkids_any _ _).mono ?_; rintro e w1 ⟨rfl, h1⟩; replace hb := below_step hb h1; clear h1) | (go_at_call 8; refine (rletter_any _ _).mono ?_; rintro e w1 ⟨rfl, h1⟩; replace hb := below_step hb h1; clear h1) | (go_at_call 11; refine (binds_any _ _ _).mono ?_; rintro e w1 ⟨rfl, h1⟩; replace hb := below_step hb h1; clear h1) | (go_at_call 12; refine (rbinds_any _ _ _).mono ?_; rintro e w1 ⟨rfl, h1⟩; replace hb := below_step hb h1; clear h1) | (go_at_call 13; refine (leaf_any _ _).mono ?_; rintro e w1 ⟨rfl, h1⟩; replace hb := below_step hb h1; clear h1) | (go_at_call 14; refine (letter_any _ _).mono ?_; rintro e w1 ⟨rfl, h1⟩; replace hb := below_step hb h1; clear h1) | (go_at_call 15; refine (canon_any _ _).mono ?_; rintro e w1 ⟨rfl, h1⟩; replace hb := below_step hb h1; clear h1) | (go_at_call 16; refine (wakes_any _).mono ?_; rintro e w1 ⟨rfl, h1⟩; replace hb := below_step hb h1; clear h1))
                go_roundw
                case rel => exact ⟨j + 1, by omega, by omega, by go_num, hb⟩
                case measure => simp [intOf]; omega
              · clear hj0 hj1
                go_wp2_with (first | (go_at_call 9; refine (kids_any _ _).mono ?_; rintro e w1 ⟨rfl, h1⟩; replace hb := below_step hb h1; clear h1) | (go_at_call 10; refine (rkids_any _ _).mono ?_; rintro e w1 ⟨rfl, h1⟩; replace hb := below_step hb h1; clear h1) | (go_at_call 8; refine (rletter_any _ _).mono ?_; rintro e w1 ⟨rfl, h1⟩; replace hb := below_step hb h1; clear h1) | (go_at_call 11; refine (binds_any _ _ _).mono ?_; rintro e w1 ⟨rfl, h1⟩; replace hb := below_step hb h1; clear h1) | (go_at_call 12; refine (rbinds_any _ _ _).mono ?_; rintro e w1 ⟨rfl, h1⟩; replace hb := below_step hb h1; clear h1) | (go_at_call 13; refine (leaf_any _ _).mono ?_; rintro e w1 ⟨rfl, h1⟩; replace hb := below_step hb h1; clear h1) | (go_at_call 14; refine (letter_any _ _).mono ?_; rintro e w1 ⟨rfl, h1⟩; replace hb := below_step hb h1; clear h1) | (go_at_call 15; refine (canon_any _ _).mono ?_; rintro e w1 ⟨rfl, h1⟩; replace hb := below_step hb h1; clear h1) | (go_at_call 16; refine (wakes_any _).mono ?_; rintro e w1 ⟨rfl, h1⟩; replace hb := below_step hb h1; clear h1))
                go_roundw
                case rel => exact ⟨k + 1, by omega, by omega, by rw [← N1.out]; rw [if_neg LT.out]; go_num, by rw [← N2.out], by rw [← N3.out]; rw [if_pos CT.out], by rw [← N0.out], by go_num, hb⟩
                case measure => simp [intOf]; omega
          · have CT := Lib.hid hc
            replace hc := Bool.eq_false_iff.mpr hc
            go_wp2_with (first | (go_at_call 9; refine (kids_any _ _).mono ?_; rintro e w1 ⟨rfl, h1⟩; replace hb := below_step hb h1; clear h1) | (go_at_call 10; refine (rkids_any _ _).mono ?_; rintro e w1 ⟨rfl, h1⟩; replace hb := below_step hb h1; clear h1) | (go_at_call 8; refine (rletter_any _ _).mono ?_; rintro e w1 ⟨rfl, h1⟩; replace hb := below_step hb h1; clear h1) | (go_at_call 11; refine (binds_any _ _ _).mono ?_; rintro e w1 ⟨rfl, h1⟩; replace hb := below_step hb h1; clear h1) | (go_at_call 12; refine (rbinds_any _ _ _).mono ?_; rintro e w1 ⟨rfl, h1⟩; replace hb := below_step hb h1; clear h1) | (go_at_call 13; refine (leaf_any _ _).mono ?_; rintro e w1 ⟨rfl, h1⟩; replace hb := below_step hb h1; clear h1) | (go_at_call 14; refine (letter_any _ _).mono ?_; rintro e w1 ⟨rfl, h1⟩; replace hb := below_step hb h1; clear h1) | (go_at_call 15; refine (canon_any _ _).mono ?_; rintro e w1 ⟨rfl, h1⟩; replace hb := below_step hb h1; clear h1) | (go_at_call 16; refine (wakes_any _).mono ?_; rintro e w1 ⟨rfl, h1⟩; replace hb := below_step hb h1; clear h1))
            go_loopw [11] (fun a wr => ∃ j : Int, 1 ≤ j ∧ j ≤ k ∧ a = .int .i64 j ∧ Below w.heap.size w wr) (fun a _ => (k - intOf a).toNat)
            case atStart => exact ⟨1, by omega, by omega, rfl, hb⟩
            case round =>
              clear hb
              obtain ⟨j, hj0, hj1, rfl, hb⟩ := hrel
              by_cases hjk : j < k
              · have he : (lettI j == lettI k) = false := by rw [beq_eq_false_iff_ne]; exact fun x => absurd (lett_inj _ _ ⟨hj0, by omega⟩ hi.out x) (by omega)
                go_wp2_with (first | (go_at_call 9; refine (kids_any _ _).mono ?_; rintro e w1 ⟨rfl, h1⟩; replace hb := below_step hb h1; clear h1) | (go_at_call 10; refine (rkids_any _ _).mono ?_; rintro e w1 ⟨rfl, h1⟩; replace hb := below_step hb h1; clear h1) | (go_at_call 8; refine (rletter_any _ _).mono ?_; rintro e w1 ⟨rfl, h1⟩; replace hb := below_step hb h1; clear h1) | (go_at_call 11; refine (binds_any _ _ _).mono ?_; rintro e w1 ⟨rfl, h1⟩; replace hb := below_step hb h1; clear h1) | (go_at_call 12; refine (rbinds_any _ _ _).mono ?_; rintro e w1 ⟨rfl, h1⟩; replace hb := below_step hb h1; clear h1) | (go_at_call 13; refine (leaf_any _ _).mono ?_; rintro e w1 ⟨rfl, h1⟩; replace hb := below_step hb h1; clear h1) | (go_at_call 14; refine (letter_any _ _).mono ?_; rintro e w1 ⟨rfl, h1⟩; replace hb := below_step hb h1; clear h1) | (go_at_call 15; refine (canon_any _ _).mono ?_; rintro e w1 ⟨rfl, h1⟩; replace hb := below_step hb h1; clear h1) | (go_at_call 16; refine (wakes_any _).mono ?_; rintro e w1 ⟨rfl, h1⟩; replace hb := below_step hb h1; clear h1))
                go_roundw
                case rel => exact ⟨j + 1, by omega, by omega, by go_num, hb⟩
                case measure => simp [intOf]; omega
              · clear hj0 hj1
                go_wp2_with (first | (go_at_call 9; refine (kids_any _ _).mono ?_; rintro e w1 ⟨rfl, h1⟩; replace hb := below_step hb h1; clear h1) | (go_at_call 10; refine (rkids_any _ _).mono ?_; rintro e w1 ⟨rfl, h1⟩; replace hb := below_step hb h1; clear h1) | (go_at_call 8; refine (rletter_any _ _).mono ?_; rintro e w1 ⟨rfl, h1⟩; replace hb := below_step hb h1; clear h1) | (go_at_call 11; refine (binds_any _ _ _).mono ?_; rintro e w1 ⟨rfl, h1⟩; replace hb := below_step hb h1; clear h1) | (go_at_call 12; refine (rbinds_any _ _ _).mono ?_; rintro e w1 ⟨rfl, h1⟩; replace hb := below_step hb h1; clear h1) | (go_at_call 13; refine (leaf_any _ _).mono ?_; rintro e w1 ⟨rfl, h1⟩; replace hb := below_step hb h1; clear h1) | (go_at_call 14; refine (letter_any _ _).mono ?_; rintro e w1 ⟨rfl, h1⟩; replace hb := below_step hb h1; clear h1) | (go_at_call 15; refine (canon_any _ _).mono ?_; rintro e w1 ⟨rfl, h1⟩; replace hb := below_step hb h1; clear h1) | (go_at_call 16; refine (wakes_any _).mono ?_; rintro e w1 ⟨rfl, h1⟩; replace hb := below_step hb h1; clear h1))
                go_roundw
                case rel => exact ⟨k + 1, by omega, by omega, by rw [← N1.out]; rw [if_neg LT.out]; go_num, by rw [← N2.out], by rw [← N3.out]; rw [if_neg CT.out]; go_num, by rw [← N0.out], by go_num, hb⟩
                case measure => simp [intOf]; omega
      · obtain ⟨e1, e2, _, _⟩ := out_let k hi
        obtain ⟨n0, n1, n2, n3⟩ := cnt_out k (by omega)
        have N0 := Lib.hid n0
        have N1 := Lib.hid n1
        have N2 := Lib.hid n2
        have N3 := Lib.hid n3
        have c9 := fun w => kids_any k w
        have c10 := fun w => rkids_any k w
        have c14 := fun w => letter_any k w
        rw [e2] at c9 c10
        rw [e1] at c14
        have C9 := Lib.hid c9
        have C10 := Lib.hid c10
        have C14 := Lib.hid c14
        have ho : k < 1 ∨ 13 < k := by omega
        clear e1 e2 n0 n1 n2 n3 c9 c10 c14 hi
        rcases ho with ho | ho
        all_goals
          go_wp2_with (first | (go_at_call 9; refine (C9.out _).mono ?_; rintro e w1 ⟨rfl, h1⟩; replace hb := below_step hb h1; clear h1) | (go_at_call 10; refine (C10.out _).mono ?_; rintro e w1 ⟨rfl, h1⟩; replace hb := below_step hb h1; clear h1) | (go_at_call 14; refine (C14.out _).mono ?_; rintro e w1 ⟨rfl, h1⟩; replace hb := below_step hb h1; clear h1))
          go_roundw
          case rel => exact ⟨k + 1, by omega, by omega, by rw [N1.out], by rw [N2.out], by rw [N3.out], by rw [N0.out], by go_num, hb⟩
          case measure => simp [intOf]; omega
    · have n0 : kindsC k = 13 := by unfold kindsC; rw [if_neg (by omega), if_pos (by omega)]
      have n1 : leavesC k = 3 := by unfold leavesC; rw [if_neg (by omega), if_pos (by omega)]
      have n2 : bindsC k = 3 := by unfold bindsC; rw [if_neg (by omega), if_neg (by omega), if_neg (by omega)]
      have n3 : canonC k = 7 := by unfold canonC; rw [if_neg (by omega), if_neg (by omega), if_neg (by omega), if_neg (by omega), if_neg (by omega), if_neg (by omega), if_neg (by omega)]
      clear hbd
      rw [n0, n1, n2, n3]
      clear n0 n1 n2 n3
      go_wp2_with (first | (go_at_call 9; refine (kids_any _ _).mono ?_; rintro e w1 ⟨rfl, h1⟩; replace hb := below_step hb h1; clear h1) | (go_at_call 10; refine (rkids_any _ _).mono ?_; rintro e w1 ⟨rfl, h1⟩; replace hb := below_step hb h1; clear h1) | (go_at_call 8; refine (rletter_any _ _).mono ?_; rintro e w1 ⟨rfl, h1⟩; replace hb := below_step hb h1; clear h1) | (go_at_call 11; refine (binds_any _ _ _).mono ?_; rintro e w1 ⟨rfl, h1⟩; replace hb := below_step hb h1; clear h1) | (go_at_call 12; refine (rbinds_any _ _ _).mono ?_; rintro e w1 ⟨rfl, h1⟩; replace hb := below_step hb h1; clear h1) | (go_at_call 13; refine (leaf_any _ _).mono ?_; rintro e w1 ⟨rfl, h1⟩; replace hb := below_step hb h1; clear h1) | (go_at_call 14; refine (letter_any _ _).mono ?_; rintro e w1 ⟨rfl, h1⟩; replace hb := below_step hb h1; clear h1) | (go_at_call 15; refine (canon_any _ _).mono ?_; rintro e w1 ⟨rfl, h1⟩; replace hb := below_step hb h1; clear h1) | (go_at_call 16; refine (wakes_any _).mono ?_; rintro e w1 ⟨rfl, h1⟩; replace hb := below_step hb h1; clear h1))
      go_ret
      exact ⟨rfl, hb⟩

set_option maxHeartbeats 4000000 in
theorem walk_bb (a0 : Int) (a1 : Int) (F T : Int) (hF : wrap64 ((IntKind.u64.wrap a0).tmod 40) = F) (f0 : 0 ≤ F) (f1 : F ≤ 39) (hT : wrap64 ((IntKind.u64.wrap a1).tmod 60) = T) (t0 : 0 ≤ T) (t1 : T ≤ 59) (hm : 0 < F - 10) (hx : 20 ≤ T) (w : World) :
    Calls Try.prog 6 #[.int .i64 a0, .int .i64 a1] w fun e w' => e = .returned (.bool true) ∧ Below w.heap.size w w' := by
  have hb := Below.refl w.heap.size w
  go_enter Try.func6, Try.ntmps6
  go_wp2_with (first | (go_at_call 9; refine (kids_any _ _).mono ?_; rintro e w1 ⟨rfl, h1⟩; replace hb := below_step hb h1; clear h1) | (go_at_call 10; refine (rkids_any _ _).mono ?_; rintro e w1 ⟨rfl, h1⟩; replace hb := below_step hb h1; clear h1) | (go_at_call 8; refine (rletter_any _ _).mono ?_; rintro e w1 ⟨rfl, h1⟩; replace hb := below_step hb h1; clear h1) | (go_at_call 11; refine (binds_any _ _ _).mono ?_; rintro e w1 ⟨rfl, h1⟩; replace hb := below_step hb h1; clear h1) | (go_at_call 12; refine (rbinds_any _ _ _).mono ?_; rintro e w1 ⟨rfl, h1⟩; replace hb := below_step hb h1; clear h1) | (go_at_call 13; refine (leaf_any _ _).mono ?_; rintro e w1 ⟨rfl, h1⟩; replace hb := below_step hb h1; clear h1) | (go_at_call 14; refine (letter_any _ _).mono ?_; rintro e w1 ⟨rfl, h1⟩; replace hb := below_step hb h1; clear h1) | (go_at_call 15; refine (canon_any _ _).mono ?_; rintro e w1 ⟨rfl, h1⟩; replace hb := below_step hb h1; clear h1) | (go_at_call 16; refine (wakes_any _).mono ?_; rintro e w1 ⟨rfl, h1⟩; replace hb := below_step hb h1; clear h1))
  try rw [hT]
  clear hF hT
  go_loopw [5, 6, 7, 8, 9] (fun a b c d e wr => ∃ k : Int, -10 ≤ k ∧ k ≤ T + 1 ∧ a = .int .i64 (leavesC k) ∧ b = .int .i64 (bindsC k) ∧ c = .int .i64 (canonC k) ∧ d = .int .i64 (kindsC k) ∧ e = .int .i64 k ∧ Below w.heap.size w wr) (fun _ _ _ _ e _ => (T + 1 - intOf e).toNat)
  case atStart => exact ⟨0, by omega, by omega, by rw [show leavesC (0) = 0 from if_pos (by omega)], by rw [show bindsC (0) = 0 from if_pos (by omega)], by rw [show canonC (0) = 0 from if_pos (by omega)], by rw [show kindsC (0) = 0 from if_pos (by omega)], by first | rfl | (congr 1), hb⟩
  case round =>
    clear hb
    obtain ⟨k, hk0, hk1, rfl, rfl, rfl, rfl, rfl, hb⟩ := hrel
    have hbd := cnt_bd k
    by_cases hk : k ≤ T
    · by_cases hi : 1 ≤ k ∧ k ≤ 13
      · have hpos := lett_pos k hi
        have hz : (lettI k == 0) = false := by rw [beq_eq_false_iff_ne]; exact hpos
        have hkn : ¬ kidsI k < 0 := by rw [kids_neg]; omega
        have n := cnt_in k hi
        have N0 := Lib.hid n.1
        have N1 := Lib.hid n.2.1
        have N2 := Lib.hid n.2.2.1
        have N3 := Lib.hid n.2.2.2
        have hb1 := binds_01 k 1
        have d1 : decide (kidsI k < 0) = false := decide_eq_false hkn
        have d2 : decide (k < 1) = false := decide_eq_false (by omega)
        have d3 : decide (13 < k) = false := decide_eq_false (by omega)
        clear n hpos
        obtain ⟨hi1, hi2⟩ := hi
        have hi := Lib.hid (And.intro hi1 hi2)
        by_cases hl : (kidsI k == 0) = true
        · have LT := Lib.hid hl
          by_cases hc : canonB k = true
          · have CT := Lib.hid hc
            go_wp2_with (first | (go_at_call 9; refine (kids_any _ _).mono ?_; rintro e w1 ⟨rfl, h1⟩; replace hb := below_step hb h1; clear h1) | (go_at_call 10; refine (rkids_any _ _).mono ?_; rintro e w1 ⟨rfl, h1⟩; replace hb := below_step hb h1; clear h1) | (go_at_call 8; refine (rletter_any _ _).mono ?_; rintro e w1 ⟨rfl, h1⟩; replace hb := below_step hb h1; clear h1) | (go_at_call 11; refine (binds_any _ _ _).mono ?_; rintro e w1 ⟨rfl, h1⟩; replace hb := below_step hb h1; clear h1) | (go_at_call 12; refine (rbinds_any _ _ _).mono ?_; rintro e w1 ⟨rfl, h1⟩; replace hb := below_step hb h1; clear h1) | (go_at_call 13; refine (leaf_any _ _).mono ?_; rintro e w1 ⟨rfl, h1⟩; replace hb := below_step hb h1; clear h1) | (go_at_call 14; refine (letter_any _ _).mono ?_; rintro e w1 ⟨rfl, h1⟩; replace hb := below_step hb h1; clear h1) | (go_at_call 15; refine (canon_any _ _).mono ?_; rintro e w1 ⟨rfl, h1⟩; replace hb := below_step hb h1; clear h1) | (go_at_call 16; refine (wakes_any _).mono ?_; rintro e w1 ⟨rfl, h1⟩; replace hb := below_step hb h1; clear h1))
            go_loopw [11] (fun a wr => ∃ j : Int, 1 ≤ j ∧ j ≤ k ∧ a = .int .i64 j ∧ Below w.heap.size w wr) (fun a _ => (k - intOf a).toNat)
            case atStart => exact ⟨1, by omega, by omega, rfl, hb⟩
            case round =>
              clear hb
              obtain ⟨j, hj0, hj1, rfl, hb⟩ := hrel
              by_cases hjk : j < k
              · have he : (lettI j == lettI k) = false := by rw [beq_eq_false_iff_ne]; exact fun x => absurd (lett_inj _ _ ⟨hj0, by omega⟩ hi.out x) (by omega)
                go_wp2_with (first | (go_at_call 9; refine (kids_any _ _).mono ?_; rintro e w1 ⟨rfl, h1⟩; replace hb := below_step hb h1; clear h1) | (go_at_call 10; refine (rkids_any _ _).mono ?_; rintro e w1 ⟨rfl, h1⟩; replace hb := below_step hb h1; clear h1) | (go_at_call 8; refine (rletter_any _ _).mono ?_; rintro e w1 ⟨rfl, h1⟩; replace hb := below_step hb h1; clear h1) | (go_at_call 11; refine (binds_any _ _ _).mono ?_; rintro e w1 ⟨rfl, h1⟩; replace hb := below_step hb h1; clear h1) | (go_at_call 12; refine (rbinds_any _ _ _).mono ?_; rintro e w1 ⟨rfl, h1⟩; replace hb := below_step hb h1; clear h1) | (go_at_call 13; refine (leaf_any _ _).mono ?_; rintro e w1 ⟨rfl, h1⟩; replace hb := below_step hb h1; clear h1) | (go_at_call 14; refine (letter_any _ _).mono ?_; rintro e w1 ⟨rfl, h1⟩; replace hb := below_step hb h1; clear h1) | (go_at_call 15; refine (canon_any _ _).mono ?_; rintro e w1 ⟨rfl, h1⟩; replace hb := below_step hb h1; clear h1) | (go_at_call 16; refine (wakes_any _).mono ?_; rintro e w1 ⟨rfl, h1⟩; replace hb := below_step hb h1; clear h1))
                go_roundw
                case rel => exact ⟨j + 1, by omega, by omega, by go_num, hb⟩
                case measure => simp [intOf]; omega
              · clear hj0 hj1
                go_wp2_with (first | (go_at_call 9; refine (kids_any _ _).mono ?_; rintro e w1 ⟨rfl, h1⟩; replace hb := below_step hb h1; clear h1) | (go_at_call 10; refine (rkids_any _ _).mono ?_; rintro e w1 ⟨rfl, h1⟩; replace hb := below_step hb h1; clear h1) | (go_at_call 8; refine (rletter_any _ _).mono ?_; rintro e w1 ⟨rfl, h1⟩; replace hb := below_step hb h1; clear h1) | (go_at_call 11; refine (binds_any _ _ _).mono ?_; rintro e w1 ⟨rfl, h1⟩; replace hb := below_step hb h1; clear h1) | (go_at_call 12; refine (rbinds_any _ _ _).mono ?_; rintro e w1 ⟨rfl, h1⟩; replace hb := below_step hb h1; clear h1) | (go_at_call 13; refine (leaf_any _ _).mono ?_; rintro e w1 ⟨rfl, h1⟩; replace hb := below_step hb h1; clear h1) | (go_at_call 14; refine (letter_any _ _).mono ?_; rintro e w1 ⟨rfl, h1⟩; replace hb := below_step hb h1; clear h1) | (go_at_call 15; refine (canon_any _ _).mono ?_; rintro e w1 ⟨rfl, h1⟩; replace hb := below_step hb h1; clear h1) | (go_at_call 16; refine (wakes_any _).mono ?_; rintro e w1 ⟨rfl, h1⟩; replace hb := below_step hb h1; clear h1))
                go_roundw
                case rel => exact ⟨k + 1, by omega, by omega, by rw [← N1.out]; rw [if_pos LT.out], by rw [← N2.out], by rw [← N3.out]; rw [if_pos CT.out], by rw [← N0.out], by go_num, hb⟩
                case measure => simp [intOf]; omega
          · have CT := Lib.hid hc
            replace hc := Bool.eq_false_iff.mpr hc
            go_wp2_with (first | (go_at_call 9; refine (kids_any _ _).mono ?_; rintro e w1 ⟨rfl, h1⟩; replace hb := below_step hb h1; clear h1) | (go_at_call 10; refine (rkids_any _ _).mono ?_; rintro e w1 ⟨rfl, h1⟩; replace hb := below_step hb h1; clear h1) | (go_at_call 8; refine (rletter_any _ _).mono ?_; rintro e w1 ⟨rfl, h1⟩; replace hb := below_step hb h1; clear h1) | (go_at_call 11; refine (binds_any _ _ _).mono ?_; rintro e w1 ⟨rfl, h1⟩; replace hb := below_step hb h1; clear h1) | (go_at_call 12; refine (rbinds_any _ _ _).mono ?_; rintro e w1 ⟨rfl, h1⟩; replace hb := below_step hb h1; clear h1) | (go_at_call 13; refine (leaf_any _ _).mono ?_; rintro e w1 ⟨rfl, h1⟩; replace hb := below_step hb h1; clear h1) | (go_at_call 14; refine (letter_any _ _).mono ?_; rintro e w1 ⟨rfl, h1⟩; replace hb := below_step hb h1; clear h1) | (go_at_call 15; refine (canon_any _ _).mono ?_; rintro e w1 ⟨rfl, h1⟩; replace hb := below_step hb h1; clear h1) | (go_at_call 16; refine (wakes_any _).mono ?_; rintro e w1 ⟨rfl, h1⟩; replace hb := below_step hb h1; clear h1))
            go_loopw [11] (fun a wr => ∃ j : Int, 1 ≤ j ∧ j ≤ k ∧ a = .int .i64 j ∧ Below w.heap.size w wr) (fun a _ => (k - intOf a).toNat)
            case atStart => exact ⟨1, by omega, by omega, rfl, hb⟩
            case round =>
              clear hb
              obtain ⟨j, hj0, hj1, rfl, hb⟩ := hrel
              by_cases hjk : j < k
              · have he : (lettI j == lettI k) = false := by rw [beq_eq_false_iff_ne]; exact fun x => absurd (lett_inj _ _ ⟨hj0, by omega⟩ hi.out x) (by omega)
                go_wp2_with (first | (go_at_call 9; refine (kids_any _ _).mono ?_; rintro e w1 ⟨rfl, h1⟩; replace hb := below_step hb h1; clear h1) | (go_at_call 10; refine (rkids_any _ _).mono ?_; rintro e w1 ⟨rfl, h1⟩; replace hb := below_step hb h1; clear h1) | (go_at_call 8; refine (rletter_any _ _).mono ?_; rintro e w1 ⟨rfl, h1⟩; replace hb := below_step hb h1; clear h1) | (go_at_call 11; refine (binds_any _ _ _).mono ?_; rintro e w1 ⟨rfl, h1⟩; replace hb := below_step hb h1; clear h1) | (go_at_call 12; refine (rbinds_any _ _ _).mono ?_; rintro e w1 ⟨rfl, h1⟩; replace hb := below_step hb h1; clear h1) | (go_at_call 13; refine (leaf_any _ _).mono ?_; rintro e w1 ⟨rfl, h1⟩; replace hb := below_step hb h1; clear h1) | (go_at_call 14; refine (letter_any _ _).mono ?_; rintro e w1 ⟨rfl, h1⟩; replace hb := below_step hb h1; clear h1) | (go_at_call 15; refine (canon_any _ _).mono ?_; rintro e w1 ⟨rfl, h1⟩; replace hb := below_step hb h1; clear h1) | (go_at_call 16; refine (wakes_any _).mono ?_; rintro e w1 ⟨rfl, h1⟩; replace hb := below_step hb h1; clear h1))
                go_roundw
                case rel => exact ⟨j + 1, by omega, by omega, by go_num, hb⟩
                case measure => simp [intOf]; omega
              · clear hj0 hj1
                go_wp2_with (first | (go_at_call 9; refine (kids_any _ _).mono ?_; rintro e w1 ⟨rfl, h1⟩; replace hb := below_step hb h1; clear h1) | (go_at_call 10; refine (rkids_any _ _).mono ?_; rintro e w1 ⟨rfl, h1⟩; replace hb := below_step hb h1; clear h1) | (go_at_call 8; refine (rletter_any _ _).mono ?_; rintro e w1 ⟨rfl, h1⟩; replace hb := below_step hb h1; clear h1) | (go_at_call 11; refine (binds_any _ _ _).mono ?_; rintro e w1 ⟨rfl, h1⟩; replace hb := below_step hb h1; clear h1) | (go_at_call 12; refine (rbinds_any _ _ _).mono ?_; rintro e w1 ⟨rfl, h1⟩; replace hb := below_step hb h1; clear h1) | (go_at_call 13; refine (leaf_any _ _).mono ?_; rintro e w1 ⟨rfl, h1⟩; replace hb := below_step hb h1; clear h1) | (go_at_call 14; refine (letter_any _ _).mono ?_; rintro e w1 ⟨rfl, h1⟩; replace hb := below_step hb h1; clear h1) | (go_at_call 15; refine (canon_any _ _).mono ?_; rintro e w1 ⟨rfl, h1⟩; replace hb := below_step hb h1; clear h1) | (go_at_call 16; refine (wakes_any _).mono ?_; rintro e w1 ⟨rfl, h1⟩; replace hb := below_step hb h1; clear h1))
                go_roundw
                case rel => exact ⟨k + 1, by omega, by omega, by rw [← N1.out]; rw [if_pos LT.out], by rw [← N2.out], by rw [← N3.out]; rw [if_neg CT.out]; go_num, by rw [← N0.out], by go_num, hb⟩
                case measure => simp [intOf]; omega
        · have LT := Lib.hid hl
          replace hl := Bool.eq_false_iff.mpr hl
          by_cases hc : canonB k = true
          · have CT := Lib.hid hc
            go_wp2_with (first | (go_at_call 9; refine (kids_any _ _).mono ?_; rintro e w1 ⟨rfl, h1⟩; replace hb := below_step hb h1; clear h1) | (go_at_call 10; refine (rkids_any _ _).mono ?_; rintro e w1 ⟨rfl, h1⟩; replace hb := below_step hb h1; clear h1) | (go_at_call 8; refine (rletter_any _ _).mono ?_; rintro e w1 ⟨rfl, h1⟩; replace hb := below_step hb h1; clear h1) | (go_at_call 11; refine (binds_any _ _ _).mono ?_; rintro e w1 ⟨rfl, h1⟩; replace hb := below_step hb h1; clear h1) | (go_at_call 12; refine (rbinds_any _ _ _).mono ?_; rintro e w1 ⟨rfl, h1⟩; replace hb := below_step hb h1; clear h1) | (go_at_call 13; refine (leaf_any _ _).mono ?_; rintro e w1 ⟨rfl, h1⟩; replace hb := below_step hb h1; clear h1) | (go_at_call 14; refine (letter_any _ _).mono ?_; rintro e w1 ⟨rfl, h1⟩; replace hb := below_step hb h1; clear h1) | (go_at_call 15; refine (canon_any _ _).mono ?_; rintro e w1 ⟨rfl, h1⟩; replace hb := below_step hb h1; clear h1) | (go_at_call 16; refine (wakes_any _).mono ?_; rintro e w1 ⟨rfl, h1⟩; replace hb := below_step hb h1; clear h1))
            go_loopw [11] (fun a wr => ∃ j : Int, 1 ≤ j ∧ j ≤ k ∧ a = .int .i64 j ∧ Below w.heap.size w wr) (fun a _ => (k - intOf a).toNat)
            case atStart => exact ⟨1, by omega, by omega, rfl, hb⟩
            case round =>
              clear hb
              obtain ⟨j, hj0, hj1, rfl, hb⟩ := hrel
              by_cases hjk : j < k
              · have he : (lettI j == lettI k) = false := by rw [beq_eq_false_iff_ne]; exact fun x => absurd (lett_inj _ _ ⟨hj0, by omega⟩ hi.out x) (by omega)
                go_wp2_with (first | (go_at_call 9; refine (kids_any _ _).mono ?_; rintro e w1 ⟨rfl, h1⟩; replace hb := below_step hb h1; clear h1) | (go_at_call 10; refine (rkids_any _ _).mono ?_; rintro e w1 ⟨rfl, h1⟩; replace hb := below_step hb h1; clear h1) | (go_at_call 8; refine (rletter_any _ _).mono ?_; rintro e w1 ⟨rfl, h1⟩; replace hb := below_step hb h1; clear h1) | (go_at_call 11; refine (binds_any _ _ _).mono ?_; rintro e w1 ⟨rfl, h1⟩; replace hb := below_step hb h1; clear h1) | (go_at_call 12; refine (rbinds_any _ _ _).mono ?_; rintro e w1 ⟨rfl, h1⟩; replace hb := below_step hb h1; clear h1) | (go_at_call 13; refine (leaf_any _ _).mono ?_; rintro e w1 ⟨rfl, h1⟩; replace hb := below_step hb h1; clear h1) | (go_at_call 14; refine (letter_any _ _).mono ?_; rintro e w1 ⟨rfl, h1⟩; replace hb := below_step hb h1; clear h1) | (go_at_call 15; refine (canon_any _ _).mono ?_; rintro e w1 ⟨rfl, h1⟩; replace hb := below_step hb h1; clear h1) | (go_at_call 16; refine (wakes_any _).mono ?_; rintro e w1 ⟨rfl, h1⟩; replace hb := below_step hb h1; clear h1))
                go_roundw
                case rel => exact ⟨j + 1, by omega, by omega, by go_num, hb⟩
                case measure => simp [intOf]; omega
              · clear hj0 hj1
                go_wp2_with (first | (go_at_call 9; refine (kids_any _ _).mono ?_; rintro e w1 ⟨rfl, h1⟩; replace hb := below_step hb h1; clear h1) | (go_at_call 10; refine (rkids_any _ _).mono ?_; rintro e w1 ⟨rfl, h1⟩; replace hb := below_step hb h1; clear h1) | (go_at_call 8; refine (rletter_any _ _).mono ?_; rintro e w1 ⟨rfl, h1⟩; replace hb := below_step hb h1; clear h1) | (go_at_call 11; refine (binds_any _ _ _).mono ?_; rintro e w1 ⟨rfl, h1⟩; replace hb := below_step hb h1; clear h1) | (go_at_call 12; refine (rbinds_any _ _ _).mono ?_; rintro e w1 ⟨rfl, h1⟩; replace hb := below_step hb h1; clear h1) | (go_at_call 13; refine (leaf_any _ _).mono ?_; rintro e w1 ⟨rfl, h1⟩; replace hb := below_step hb h1; clear h1) | (go_at_call 14; refine (letter_any _ _).mono ?_; rintro e w1 ⟨rfl, h1⟩; replace hb := below_step hb h1; clear h1) | (go_at_call 15; refine (canon_any _ _).mono ?_; rintro e w1 ⟨rfl, h1⟩; replace hb := below_step hb h1; clear h1) | (go_at_call 16; refine (wakes_any _).mono ?_; rintro e w1 ⟨rfl, h1⟩; replace hb := below_step hb h1; clear h1))
                go_roundw
                case rel => exact ⟨k + 1, by omega, by omega, by rw [← N1.out]; rw [if_neg LT.out]; go_num, by rw [← N2.out], by rw [← N3.out]; rw [if_pos CT.out], by rw [← N0.out], by go_num, hb⟩
                case measure => simp [intOf]; omega
          · have CT := Lib.hid hc
            replace hc := Bool.eq_false_iff.mpr hc
            go_wp2_with (first | (go_at_call 9; refine (kids_any _ _).mono ?_; rintro e w1 ⟨rfl, h1⟩; replace hb := below_step hb h1; clear h1) | (go_at_call 10; refine (rkids_any _ _).mono ?_; rintro e w1 ⟨rfl, h1⟩; replace hb := below_step hb h1; clear h1) | (go_at_call 8; refine (rletter_any _ _).mono ?_; rintro e w1 ⟨rfl, h1⟩; replace hb := below_step hb h1; clear h1) | (go_at_call 11; refine (binds_any _ _ _).mono ?_; rintro e w1 ⟨rfl, h1⟩; replace hb := below_step hb h1; clear h1) | (go_at_call 12; refine (rbinds_any _ _ _).mono ?_; rintro e w1 ⟨rfl, h1⟩; replace hb := below_step hb h1; clear h1) | (go_at_call 13; refine (leaf_any _ _).mono ?_; rintro e w1 ⟨rfl, h1⟩; replace hb := below_step hb h1; clear h1) | (go_at_call 14; refine (letter_any _ _).mono ?_; rintro e w1 ⟨rfl, h1⟩; replace hb := below_step hb h1; clear h1) | (go_at_call 15; refine (canon_any _ _).mono ?_; rintro e w1 ⟨rfl, h1⟩; replace hb := below_step hb h1; clear h1) | (go_at_call 16; refine (wakes_any _).mono ?_; rintro e w1 ⟨rfl, h1⟩; replace hb := below_step hb h1; clear h1))
            go_loopw [11] (fun a wr => ∃ j : Int, 1 ≤ j ∧ j ≤ k ∧ a = .int .i64 j ∧ Below w.heap.size w wr) (fun a _ => (k - intOf a).toNat)
            case atStart => exact ⟨1, by omega, by omega, rfl, hb⟩
            case round =>
              clear hb
              obtain ⟨j, hj0, hj1, rfl, hb⟩ := hrel
              by_cases hjk : j < k
              · have he : (lettI j == lettI k) = false := by rw [beq_eq_false_iff_ne]; exact fun x => absurd (lett_inj _ _ ⟨hj0, by omega⟩ hi.out x) (by omega)
                go_wp2_with (first | (go_at_call 9; refine (kids_any _ _).mono ?_; rintro e w1 ⟨rfl, h1⟩; replace hb := below_step hb h1; clear h1) | (go_at_call 10; refine (rkids_any _ _).mono ?_; rintro e w1 ⟨rfl, h1⟩; replace hb := below_step hb h1; clear h1) | (go_at_call 8; refine (rletter_any _ _).mono ?_; rintro e w1 ⟨rfl, h1⟩; replace hb := below_step hb h1; clear h1) | (go_at_call 11; refine (binds_any _ _ _).mono ?_; rintro e w1 ⟨rfl, h1⟩; replace hb := below_step hb h1; clear h1) | (go_at_call 12; refine (rbinds_any _ _ _).mono ?_; rintro e w1 ⟨rfl, h1⟩; replace hb := below_step hb h1; clear h1) | (go_at_call 13; refine (leaf_any _ _).mono ?_; rintro e w1 ⟨rfl, h1⟩; replace hb := below_step hb h1; clear h1) | (go_at_call 14; refine (letter_any _ _).mono ?_; rintro e w1 ⟨rfl, h1⟩; replace hb := below_step hb h1; clear h1) | (go_at_call 15; refine (canon_any _ _).mono ?_; rintro e w1 ⟨rfl, h1⟩; replace hb := below_step hb h1; clear h1) | (go_at_call 16; refine (wakes_any _).mono ?_; rintro e w1 ⟨rfl, h1⟩; replace hb := below_step hb h1; clear h1))
                go_roundw
                case rel => exact ⟨j + 1, by omega, by omega, by go_num, hb⟩
                case measure => simp [intOf]; omega
              · clear hj0 hj1
                go_wp2_with (first | (go_at_call 9; refine (kids_any _ _).mono ?_; rintro e w1 ⟨rfl, h1⟩; replace hb := below_step hb h1; clear h1) | (go_at_call 10; refine (rkids_any _ _).mono ?_; rintro e w1 ⟨rfl, h1⟩; replace hb := below_step hb h1; clear h1) | (go_at_call 8; refine (rletter_any _ _).mono ?_; rintro e w1 ⟨rfl, h1⟩; replace hb := below_step hb h1; clear h1) | (go_at_call 11; refine (binds_any _ _ _).mono ?_; rintro e w1 ⟨rfl, h1⟩; replace hb := below_step hb h1; clear h1) | (go_at_call 12; refine (rbinds_any _ _ _).mono ?_; rintro e w1 ⟨rfl, h1⟩; replace hb := below_step hb h1; clear h1) | (go_at_call 13; refine (leaf_any _ _).mono ?_; rintro e w1 ⟨rfl, h1⟩; replace hb := below_step hb h1; clear h1) | (go_at_call 14; refine (letter_any _ _).mono ?_; rintro e w1 ⟨rfl, h1⟩; replace hb := below_step hb h1; clear h1) | (go_at_call 15; refine (canon_any _ _).mono ?_; rintro e w1 ⟨rfl, h1⟩; replace hb := below_step hb h1; clear h1) | (go_at_call 16; refine (wakes_any _).mono ?_; rintro e w1 ⟨rfl, h1⟩; replace hb := below_step hb h1; clear h1))
                go_roundw
                case rel => exact ⟨k + 1, by omega, by omega, by rw [← N1.out]; rw [if_neg LT.out]; go_num, by rw [← N2.out], by rw [← N3.out]; rw [if_neg CT.out]; go_num, by rw [← N0.out], by go_num, hb⟩
                case measure => simp [intOf]; omega
      · obtain ⟨e1, e2, _, _⟩ := out_let k hi
        obtain ⟨n0, n1, n2, n3⟩ := cnt_out k (by omega)
        have N0 := Lib.hid n0
        have N1 := Lib.hid n1
        have N2 := Lib.hid n2
        have N3 := Lib.hid n3
        have c9 := fun w => kids_any k w
        have c10 := fun w => rkids_any k w
        have c14 := fun w => letter_any k w
        rw [e2] at c9 c10
        rw [e1] at c14
        have C9 := Lib.hid c9
        have C10 := Lib.hid c10
        have C14 := Lib.hid c14
        have ho : k < 1 ∨ 13 < k := by omega
        clear e1 e2 n0 n1 n2 n3 c9 c10 c14 hi
        rcases ho with ho | ho
        all_goals
          go_wp2_with (first | (go_at_call 9; refine (C9.out _).mono ?_; rintro e w1 ⟨rfl, h1⟩; replace hb := below_step hb h1; clear h1) | (go_at_call 10; refine (C10.out _).mono ?_; rintro e w1 ⟨rfl, h1⟩; replace hb := below_step hb h1; clear h1) | (go_at_call 14; refine (C14.out _).mono ?_; rintro e w1 ⟨rfl, h1⟩; replace hb := below_step hb h1; clear h1))
          go_roundw
          case rel => exact ⟨k + 1, by omega, by omega, by rw [N1.out], by rw [N2.out], by rw [N3.out], by rw [N0.out], by go_num, hb⟩
          case measure => simp [intOf]; omega
    · have n0 : kindsC k = 13 := by unfold kindsC; rw [if_neg (by omega), if_pos (by omega)]
      have n1 : leavesC k = 3 := by unfold leavesC; rw [if_neg (by omega), if_pos (by omega)]
      have n2 : bindsC k = 3 := by unfold bindsC; rw [if_neg (by omega), if_neg (by omega), if_neg (by omega)]
      have n3 : canonC k = 7 := by unfold canonC; rw [if_neg (by omega), if_neg (by omega), if_neg (by omega), if_neg (by omega), if_neg (by omega), if_neg (by omega), if_neg (by omega)]
      clear hbd
      rw [n0, n1, n2, n3]
      clear n0 n1 n2 n3
      go_wp2_with (first | (go_at_call 9; refine (kids_any _ _).mono ?_; rintro e w1 ⟨rfl, h1⟩; replace hb := below_step hb h1; clear h1) | (go_at_call 10; refine (rkids_any _ _).mono ?_; rintro e w1 ⟨rfl, h1⟩; replace hb := below_step hb h1; clear h1) | (go_at_call 8; refine (rletter_any _ _).mono ?_; rintro e w1 ⟨rfl, h1⟩; replace hb := below_step hb h1; clear h1) | (go_at_call 11; refine (binds_any _ _ _).mono ?_; rintro e w1 ⟨rfl, h1⟩; replace hb := below_step hb h1; clear h1) | (go_at_call 12; refine (rbinds_any _ _ _).mono ?_; rintro e w1 ⟨rfl, h1⟩; replace hb := below_step hb h1; clear h1) | (go_at_call 13; refine (leaf_any _ _).mono ?_; rintro e w1 ⟨rfl, h1⟩; replace hb := below_step hb h1; clear h1) | (go_at_call 14; refine (letter_any _ _).mono ?_; rintro e w1 ⟨rfl, h1⟩; replace hb := below_step hb h1; clear h1) | (go_at_call 15; refine (canon_any _ _).mono ?_; rintro e w1 ⟨rfl, h1⟩; replace hb := below_step hb h1; clear h1) | (go_at_call 16; refine (wakes_any _).mono ?_; rintro e w1 ⟨rfl, h1⟩; replace hb := below_step hb h1; clear h1))
      go_ret
      exact ⟨rfl, hb⟩

theorem walk (a0 : Int) (a1 : Int) (w0 : (Lit.int .i64 a0).wf = true) (w1 : (Lit.int .i64 a1).wf = true) (w : World) :
    Calls Try.prog 6 #[.int .i64 a0, .int .i64 a1] w fun e w' => e = .returned (.bool true) ∧ Below w.heap.size w w' := by
  obtain ⟨F, hF, f0, f1⟩ := low40 a0
  obtain ⟨T, hT, t0, t1⟩ := low60 a1
  by_cases hm : F - 10 ≤ 0
  · by_cases hx : T < 20
    · exact walk_aa a0 a1 F T hF f0 f1 hT t0 t1 hm hx w
    · exact walk_ab a0 a1 F T hF f0 f1 hT t0 t1 hm (by omega) w
  · by_cases hx : T < 20
    · exact walk_ba a0 a1 F T hF f0 f1 hT t0 t1 (by omega) hx w
    · exact walk_bb a0 a1 F T hF f0 f1 hT t0 t1 (by omega) (by omega) w

/-! ### THE ROW's STEP: WRITTEN OUT: LEAVE IT -/
set_option maxRecDepth 100000 in
theorem lifted (os : Os) (started : os.Started) (H : Type) (enc : TypeId × Value → H) :
    ReturnsInHanded {} Try.checked os 6 .any (Rows.kindTellsSpec.pre6 enc Try.prog Try.f6 Rows.kindTellsRow.domain false) (Rows.kindTellsSpec.post enc Try.prog Try.f6 false true false false) := by
  refine returnsInHanded_of_change (C := Try.checked) own started (by kernel_rfl) Try.func6
    (ChangeSpec.witness6 (enc := enc) (C := Try.checked) false ⟨#[], #[.int .i64 0, .int .i64 0], []⟩ 8 (by kernel_rfl) (by kernel_rfl) (by kernel_rfl) (by kernel_rfl)) ?_
  intro W base args ds gs before hval0 hW hcnd _
  have hval : ∀ (j : Nat) t v, Try.f6.params[j]? = some t → args[j]? = some v → Value.okWide Try.prog W .any base t v := hval0
  have hW' := hW
  obtain ⟨p, q, hA0, hV, rfl, hfz, hnd⟩ := hW
  have hA : DataW.TrodAll enc Try.prog W 0 (fun _ => true) true Try.f6.params.toList args.toList ds p := hA0
  rw [Try.params6] at hA hval
  obtain ⟨v0, vs0, d0, ds0, p0, q0, hargs, rfl, rfl, h0, r0⟩ := trodAll_cons hA
  obtain ⟨v1, vs1, d1, ds1, p1, q1, rfl, rfl, rfl, h1, r1⟩ := trodAll_cons r0
  obtain ⟨rfl, rfl, rfl⟩ := trodAll_nil r1
  obtain rfl : args = #[v0, v1] := by cases args; simp_all
  obtain ⟨rfl, rfl⟩ := trodVars_none hV
  obtain ⟨a0, rfl, rfl, rfl, w0⟩ := open_int Try.underlying3 (hval 0 3 v0 rfl rfl) h0
  obtain ⟨a1, rfl, rfl, rfl, w1⟩ := open_int Try.underlying3 (hval 1 3 v1 rfl rfl) h1
  clear hA0 hval0
  simp only [List.append_nil] at hW'
  refine (walk a0 a1 w0 w1 W).mono fun e W' ⟨he, hg⟩ => ?_
  subst he
  exact ⟨_, rfl, _, _, _, [], _, [], hW', trodAll_mk1 (shut_bool Try.underlying4 _), (trodAll_cons_mk (shut_int Try.underlying3 w0) (trodAll_cons_mk (shut_int Try.underlying3 w1) trodAll_mk0)), rfl, hg.frame _, fun h => by cases h⟩

theorem over : Rows.kindTellsRow.holds Try.pinned (OpenSpec.ofChange Rows.kindTellsSpec) :=
  OpenClaim.holds_of_wide 6 Try.f6 rfl rfl rfl rfl rfl rfl rfl ⟨rfl, rfl, rfl, rfl, rfl⟩ rfl rfl rfl rfl rfl (by kernel_rfl) Try.func6 (by kernel_rfl)
    (of_decide_eq_true (by kernel_rfl)) (by unfold Func.isWrapper; first | (rw [if_pos (by decide +kernel)]; kernel_rfl) | (rw [if_neg (by decide +kernel)]; exact ⟨rfl, rfl⟩))
    (fun os started H enc _ => lifted os started H enc)

/-- ████ THE STATEMENT ████ -/
theorem proved : Rows.KindTellsSaid :=
  over
end Go.Proofs.Ytfjkojebpbnecaa.kindTells
namespace Go.Proofs.Ytfjkojebpbnecaa
theorem kindTells_holds : Rows.KindTellsSaid := kindTells.proved
end Go.Proofs.Ytfjkojebpbnecaa
#print axioms Go.Proofs.Ytfjkojebpbnecaa.kindTells_holds
