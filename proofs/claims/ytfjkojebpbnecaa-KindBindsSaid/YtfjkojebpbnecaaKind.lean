/-
  Total answers of the functions of package kind and of the page's, and their contracts.
-/
import Derived.Test.YtfjkojebpbnecaaOf
import Derived.Lib.Hide
namespace Go.Proofs.Ytfjkojebpbnecaa
open Go.RowKit Go.Proofs.YtfjkojebpbnecaaW.PrintWords Go.Proofs.YtfjkojebpbnecaaW.PrintLast Go.Proofs.YtfjkojebpbnecaaW.PrintMore PKindExact

def kidsI (a : Int) : Int := if a = 1 ∨ a = 2 ∨ a = 3 then 0 else if a = 9 ∨ a = 10 then 1 else if a = 8 ∨ a = 11 ∨ a = 13 then 3 else if 1 ≤ a ∧ a ≤ 13 then 2 else -1
def bindsI (a i : Int) : Int := if i = 1 ∧ (a = 4 ∨ a = 5 ∨ a = 7) then 1 else 0
def lettI (a : Int) : Int := if a = 1 then 118 else if a = 2 then 117 else if a = 3 then 99 else if a = 4 then 112 else if a = 5 then 108 else if a = 6 then 97 else if a = 7 then 115 else if a = 8 then 111 else if a = 9 then 102 else if a = 10 then 103 else if a = 11 then 105 else if a = 12 then 114 else if a = 13 then 106 else 0
def canonB (a : Int) : Bool := a == 2 || a == 4 || a == 5 || a == 7 || a == 8 || a == 11 || a == 12

theorem kind_cases (a : Int) : a < 1 ∨ 13 < a ∨ a = 1 ∨ a = 2 ∨ a = 3 ∨ a = 4 ∨ a = 5 ∨ a = 6 ∨ a = 7 ∨ a = 8 ∨ a = 9 ∨ a = 10 ∨ a = 11 ∨ a = 12 ∨ a = 13 := by omega

theorem letter_f (a : Int) : porismref01_Letter.f a = some (lettI a) := by
  rcases kind_cases a with h | h | h | h | h | h | h | h | h | h | h | h | h | h | h
  · have n1 : a ≠ 1 := by omega
    have n2 : a ≠ 2 := by omega
    have n3 : a ≠ 3 := by omega
    have n4 : a ≠ 4 := by omega
    have n5 : a ≠ 5 := by omega
    have n6 : a ≠ 6 := by omega
    have n7 : a ≠ 7 := by omega
    have n8 : a ≠ 8 := by omega
    have n9 : a ≠ 9 := by omega
    have n10 : a ≠ 10 := by omega
    have n11 : a ≠ 11 := by omega
    have n12 : a ≠ 12 := by omega
    have n13 : a ≠ 13 := by omega
    simp [porismref01_Letter.f, lettI, *]
  · have n1 : a ≠ 1 := by omega
    have n2 : a ≠ 2 := by omega
    have n3 : a ≠ 3 := by omega
    have n4 : a ≠ 4 := by omega
    have n5 : a ≠ 5 := by omega
    have n6 : a ≠ 6 := by omega
    have n7 : a ≠ 7 := by omega
    have n8 : a ≠ 8 := by omega
    have n9 : a ≠ 9 := by omega
    have n10 : a ≠ 10 := by omega
    have n11 : a ≠ 11 := by omega
    have n12 : a ≠ 12 := by omega
    have n13 : a ≠ 13 := by omega
    simp [porismref01_Letter.f, lettI, *]
  all_goals
    subst h
    rfl

theorem kids_f (a : Int) : kind_Kids.f 9 a = some (kidsI a) := by
  rcases kind_cases a with h | h | h | h | h | h | h | h | h | h | h | h | h | h | h
  · have n1 : a ≠ 1 := by omega
    have n2 : a ≠ 2 := by omega
    have n3 : a ≠ 3 := by omega
    have n4 : a ≠ 4 := by omega
    have n5 : a ≠ 5 := by omega
    have n6 : a ≠ 6 := by omega
    have n7 : a ≠ 7 := by omega
    have n8 : a ≠ 8 := by omega
    have n9 : a ≠ 9 := by omega
    have n10 : a ≠ 10 := by omega
    have n11 : a ≠ 11 := by omega
    have n12 : a ≠ 12 := by omega
    have n13 : a ≠ 13 := by omega
    have m : ¬ 1 ≤ a := by omega
    simp [kind_Kids.f, kind_Kids.j0, kind_Kids.j1, kind_Kids.j2, kind_is.f, kidsI, *]
  · have n1 : a ≠ 1 := by omega
    have n2 : a ≠ 2 := by omega
    have n3 : a ≠ 3 := by omega
    have n4 : a ≠ 4 := by omega
    have n5 : a ≠ 5 := by omega
    have n6 : a ≠ 6 := by omega
    have n7 : a ≠ 7 := by omega
    have n8 : a ≠ 8 := by omega
    have n9 : a ≠ 9 := by omega
    have n10 : a ≠ 10 := by omega
    have n11 : a ≠ 11 := by omega
    have n12 : a ≠ 12 := by omega
    have n13 : a ≠ 13 := by omega
    have m : ¬ a ≤ 13 := by omega
    simp [kind_Kids.f, kind_Kids.j0, kind_Kids.j1, kind_Kids.j2, kind_is.f, kidsI, *]
  all_goals subst h; rfl

theorem rkids_f (a : Int) : porismref01_Kids.f 9 a = some (kidsI a) := by
  rcases kind_cases a with h | h | h | h | h | h | h | h | h | h | h | h | h | h | h
  · have n1 : a ≠ 1 := by omega
    have n2 : a ≠ 2 := by omega
    have n3 : a ≠ 3 := by omega
    have n4 : a ≠ 4 := by omega
    have n5 : a ≠ 5 := by omega
    have n6 : a ≠ 6 := by omega
    have n7 : a ≠ 7 := by omega
    have n8 : a ≠ 8 := by omega
    have n9 : a ≠ 9 := by omega
    have n10 : a ≠ 10 := by omega
    have n11 : a ≠ 11 := by omega
    have n12 : a ≠ 12 := by omega
    have n13 : a ≠ 13 := by omega
    have m : ¬ 1 ≤ a := by omega
    simp [porismref01_Kids.f, porismref01_Kids.j0, porismref01_Kids.j1, porismref01_Kids.j2, kidsI, *]
  · have n1 : a ≠ 1 := by omega
    have n2 : a ≠ 2 := by omega
    have n3 : a ≠ 3 := by omega
    have n4 : a ≠ 4 := by omega
    have n5 : a ≠ 5 := by omega
    have n6 : a ≠ 6 := by omega
    have n7 : a ≠ 7 := by omega
    have n8 : a ≠ 8 := by omega
    have n9 : a ≠ 9 := by omega
    have n10 : a ≠ 10 := by omega
    have n11 : a ≠ 11 := by omega
    have n12 : a ≠ 12 := by omega
    have n13 : a ≠ 13 := by omega
    have m : ¬ a ≤ 13 := by omega
    simp [porismref01_Kids.f, porismref01_Kids.j0, porismref01_Kids.j1, porismref01_Kids.j2, kidsI, *]
  all_goals subst h; rfl

theorem wrap_small (i : Int) (h0 : 0 ≤ i) (h1 : i < 1000) : wrap64 (i + 1) = i + 1 := by unfold wrap64; omega

theorem index_l (l : List Int) (v : Int) (hl : l.length < 1000) : ∀ (d k i : Nat), l.length - i = d → i ≤ l.length → d < k →
    ∃ r, slices_Index_int_int.l0 k l v (l.length : Int) i = some r ∧ (0 ≤ r ↔ v ∈ l.drop i)
  | 0, k, i, hd, hi, hk => by
    obtain ⟨k, rfl⟩ : ∃ m, k = m + 1 := ⟨k - 1, by omega⟩
    refine ⟨-1, ?_, ?_⟩
    · simp only [slices_Index_int_int.l0]; rw [if_neg (by omega)]
    · rw [List.drop_of_length_le (by omega)]; simp
  | d + 1, k, i, hd, hi, hk => by
    obtain ⟨k, rfl⟩ : ∃ m, k = m + 1 := ⟨k - 1, by omega⟩
    obtain ⟨r, hr, h⟩ := index_l l v hl d k (i + 1) (by omega) (by omega) (by omega)
    have hlt : i < l.length := by omega
    have hrd : rd l (i : Int) = l[i] := by simp [rd, List.getD, hlt]
    have hdr : l.drop i = l[i] :: l.drop (i + 1) := List.drop_eq_getElem_cons hlt
    by_cases e : v = l[i]
    · refine ⟨i, ?_, ?_⟩
      · simp only [slices_Index_int_int.l0]; rw [if_pos (by omega), if_pos (by omega), if_pos (by omega), hrd, if_pos e]
      · rw [hdr, List.mem_cons]; exact ⟨fun _ => .inl e, fun _ => by omega⟩
    · refine ⟨r, ?_, ?_⟩
      · simp only [slices_Index_int_int.l0]; rw [if_pos (by omega), if_pos (by omega), if_pos (by omega), hrd, if_neg e, wrap_small _ (by omega) (by omega)]; exact hr
      · rw [hdr, List.mem_cons, h]; exact ⟨.inr, fun x => x.resolve_left e⟩

theorem contains_f (l : List Int) (v : Int) (k : Nat) (hl : l.length < 1000) (hk : l.length < k) : slices_Contains_int_int.f k l v = some (l.contains v) := by
  obtain ⟨r, hr, h⟩ := index_l l v hl l.length k 0 (by omega) (by omega) hk
  unfold slices_Contains_int_int.f slices_Index_int_int.f
  rw [show ((0 : Int)) = ((0 : Nat) : Int) from rfl, hr]
  simp only [Option.bind_some]
  simp only [List.drop_zero] at h
  rw [show decide (r ≥ ((0 : Nat) : Int)) = l.contains v from by rw [Bool.eq_iff_iff]; simp [h]]

theorem binds_f (a i : Int) : kind_Binds.f 9 a i = some (bindsI a i) := by
  unfold kind_Binds.f bindsI
  rw [contains_f _ _ _ (by simp) (by simp)]
  by_cases h : i = 1 <;> simp [h]
  split <;> simp_all

theorem rbinds_f (a i : Int) : porismref01_Binds.f a i = some (bindsI a i) := by
  unfold porismref01_Binds.f bindsI
  repeat' split
  all_goals first | rfl | omega

theorem leaf_f (a : Int) : kind_Leaf.f 9 a = some (kidsI a == 0) := by
  unfold kind_Leaf.f; rw [kids_f]; rfl

theorem kletter_f (a : Int) : kind_Letter.f a = some (lettI a) := by
  rcases kind_cases a with h | h | h | h | h | h | h | h | h | h | h | h | h | h | h
  · have n1 : a ≠ 1 := by omega
    have n2 : a ≠ 2 := by omega
    have n3 : a ≠ 3 := by omega
    have n4 : a ≠ 4 := by omega
    have n5 : a ≠ 5 := by omega
    have n6 : a ≠ 6 := by omega
    have n7 : a ≠ 7 := by omega
    have n8 : a ≠ 8 := by omega
    have n9 : a ≠ 9 := by omega
    have n10 : a ≠ 10 := by omega
    have n11 : a ≠ 11 := by omega
    have n12 : a ≠ 12 := by omega
    have n13 : a ≠ 13 := by omega
    have m : ¬ 1 ≤ a := by omega
    simp [kind_Letter.f, kind_is.f, lettI, *]
  · have n1 : a ≠ 1 := by omega
    have n2 : a ≠ 2 := by omega
    have n3 : a ≠ 3 := by omega
    have n4 : a ≠ 4 := by omega
    have n5 : a ≠ 5 := by omega
    have n6 : a ≠ 6 := by omega
    have n7 : a ≠ 7 := by omega
    have n8 : a ≠ 8 := by omega
    have n9 : a ≠ 9 := by omega
    have n10 : a ≠ 10 := by omega
    have n11 : a ≠ 11 := by omega
    have n12 : a ≠ 12 := by omega
    have n13 : a ≠ 13 := by omega
    have m : ¬ a ≤ 13 := by omega
    simp [kind_Letter.f, kind_is.f, lettI, *]
  all_goals
    subst h
    simp [kind_Letter.f, kind_is.f, lettI, wrap64, bt]
    rfl

theorem canon_f (a : Int) : kind_Canon.f 9 a = some (canonB a) := by
  unfold kind_Canon.f; rw [contains_f _ _ _ (by simp) (by simp)]
  simp only [Option.bind_some, Option.some.injEq]
  rw [Bool.eq_iff_iff]
  simp [canonB, or_assoc]

set_option maxHeartbeats 2000000 in
theorem ofB_lt (c : Int) : ofB c < 13 := by
  have hi : ∀ (l : List UInt8) (x : UInt8), Lib.indexByte l x < l.length := by
    intro l x
    induction l with
    | nil => simp [Lib.indexByte]
    | cons b l ih =>
      unfold Lib.indexByte
      simp only [List.length_cons]
      repeat' split
      all_goals omega
  exact hi _ _

theorem kids_any (a : Int) (w : World) : Calls Try.prog 9 #[.int .i64 a] w fun e w' => e = .returned (.int .i64 (kidsI a)) ∧ Below w.heap.size w w' :=
  (kind_Kids.calls 9 a _ w (kids_f a)).mono fun _ _ ⟨he, hw⟩ => ⟨he, hw.below⟩
theorem rkids_any (a : Int) (w : World) : Calls Try.prog 10 #[.int .i64 a] w fun e w' => e = .returned (.int .i64 (kidsI a)) ∧ Below w.heap.size w w' :=
  (porismref01_Kids.calls 9 a _ w (rkids_f a)).mono fun _ _ ⟨he, hw⟩ => ⟨he, hw.below⟩
theorem rletter_any (a : Int) (w : World) : Calls Try.prog 8 #[.int .i64 a] w fun e w' => e = .returned (.int .u8 (lettI a)) ∧ Below w.heap.size w w' :=
  (porismref01_Letter.calls a _ w (letter_f a)).mono fun _ _ ⟨he, hw⟩ => ⟨he, hw.below⟩
theorem binds_any (a i : Int) (w : World) : Calls Try.prog 11 #[.int .i64 a, .int .i64 i] w fun e w' => e = .returned (.int .i64 (bindsI a i)) ∧ Below w.heap.size w w' :=
  (kind_Binds.calls 9 a i _ w (binds_f a i)).mono fun _ _ ⟨he, hw⟩ => ⟨he, hw⟩
theorem rbinds_any (a i : Int) (w : World) : Calls Try.prog 12 #[.int .i64 a, .int .i64 i] w fun e w' => e = .returned (.int .i64 (bindsI a i)) ∧ Below w.heap.size w w' :=
  (porismref01_Binds.calls a i _ w (rbinds_f a i)).mono fun _ _ ⟨he, hw⟩ => ⟨he, hw.below⟩
theorem leaf_any (a : Int) (w : World) : Calls Try.prog 13 #[.int .i64 a] w fun e w' => e = .returned (.bool (kidsI a == 0)) ∧ Below w.heap.size w w' :=
  (kind_Leaf.calls 9 a _ w (leaf_f a)).mono fun _ _ ⟨he, hw⟩ => ⟨he, hw.below⟩
theorem letter_any (a : Int) (w : World) : Calls Try.prog 14 #[.int .i64 a] w fun e w' => e = .returned (.int .u8 (lettI a)) ∧ Below w.heap.size w w' :=
  (kind_Letter.calls a _ w (kletter_f a)).mono fun _ _ ⟨he, hw⟩ => ⟨he, hw.below⟩
theorem canon_any (a : Int) (w : World) : Calls Try.prog 15 #[.int .i64 a] w fun e w' => e = .returned (.bool (canonB a)) ∧ Below w.heap.size w w' :=
  (kind_Canon.calls 9 a _ w (canon_f a)).mono fun _ _ ⟨he, hw⟩ => ⟨he, hw⟩

set_option maxHeartbeats 1000000 in
theorem wakes_any (w : World) : Calls Try.prog 16 #[] w fun e w' => e = .returned (.bool true) ∧ Below w.heap.size w w' := by
  have e1 : kidsI 13 = 3 := rfl
  have e2 : lettI 13 = 106 := rfl
  have e3 : ofV 106 = .tuple #[.int .i64 13, .bool true] := rfl
  have e4 : kidsI 1 = 0 := rfl
  have e5 : bindsI 5 1 = 1 := rfl
  have e6 : canonB 5 = true := rfl
  have c1 := fun w => kids_any 13 w
  have c2 := fun w => letter_any 13 w
  have c3 := fun w => of_any 106 w (by decide)
  have c4 := fun w => leaf_any 1 w
  have c5 := fun w => binds_any 5 1 w
  have c6 := fun w => canon_any 5 w
  rw [e1] at c1
  rw [e2] at c2
  rw [e3] at c3
  rw [e4] at c4
  rw [e5] at c5
  rw [e6] at c6
  have C1 := Lib.hid c1
  have C2 := Lib.hid c2
  have C3 := Lib.hid c3
  have C4 := Lib.hid c4
  have C5 := Lib.hid c5
  have C6 := Lib.hid c6
  clear e1 e2 e3 e4 e5 e6 c1 c2 c3 c4 c5 c6
  go_enter Try.func16, Try.ntmps16
  have hb := Below.refl w.heap.size w
  go_wp2_with (first | (go_at_call 9; refine (C1.out _).mono ?_; rintro e w1 ⟨rfl, h1⟩; replace hb := below_step hb h1; clear h1) | (go_at_call 14; refine (C2.out _).mono ?_; rintro e w1 ⟨rfl, h1⟩; replace hb := below_step hb h1; clear h1) | (go_at_call 7; refine (C3.out _).mono ?_; rintro e w1 ⟨rfl, rfl⟩) | (go_at_call 13; refine (C4.out _).mono ?_; rintro e w1 ⟨rfl, h1⟩; replace hb := below_step hb h1; clear h1) | (go_at_call 11; refine (C5.out _).mono ?_; rintro e w1 ⟨rfl, h1⟩; replace hb := below_step hb h1; clear h1) | (go_at_call 15; refine (C6.out _).mono ?_; rintro e w1 ⟨rfl, h1⟩; replace hb := below_step hb h1; clear h1))
  go_ret
  exact ⟨rfl, hb⟩
end Go.Proofs.Ytfjkojebpbnecaa
