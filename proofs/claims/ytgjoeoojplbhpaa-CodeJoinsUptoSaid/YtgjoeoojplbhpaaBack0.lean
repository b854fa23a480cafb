/-
  What a constructor is compiled to is right; what is not heavy is small.
-/
import Derived.Test.YtgjoeoojplbhpaaAgain
namespace Go.Proofs.Ytgjoeoojplbhpaa
set_option linter.unusedSimpArgs false
set_option linter.unusedVariables false
open Go.Aw Go.RowKit
attribute [local irreducible] WL AC WD MStep OkOp

theorem codeOf_formed (a : Ar) : formedD (codeOf a) = true ∧ (codeOf a).kind ≠ 1 := by
  obtain ⟨rc, tt, dd, so, ix⟩ := a
  cases rc <;> simp [codeOf, formedD]
theorem compile_ok (c : Cn) : okRow (compile c) = true := by
  rw [okRow_iff]
  intro i x hx
  have hlen : (compile c).length = c.args.length + 1 := by simp [compile]
  by_cases hi : i < c.args.length
  · obtain ⟨a, ha, _⟩ := get_of_lt hi
    have := compile_get ha
    rw [hx] at this
    obtain rfl := Option.some.inj this
    have h1 := codeOf_formed a
    exact ⟨h1.1, by constructor <;> intro q <;> first | exact absurd q h1.2 | omega⟩
  · have hlt : i < (compile c).length := (List.getElem?_eq_some_iff.1 hx).1
    obtain rfl : i = c.args.length := by omega
    rw [compile_last] at hx
    obtain rfl := Option.some.inj hx
    exact ⟨by simp [formedD], by simp [hlen]⟩
theorem compile_sizes (c : Cn) : sizesD (compile c) ≤ c.size + 2 * c.args.length + 2 := by
  have h1 : ∀ l : List Ar, sizesD (l.map codeOf) ≤ sizesA l + 2 * l.length := by
    intro l
    induction l with
    | nil => exact Nat.le_refl _
    | cons a l ih =>
      have : (codeOf a).size ≤ a.size + 2 := by
        obtain ⟨rc, tt, dd, so, ix⟩ := a
        cases rc <;> simp [codeOf, Ar.size, Cd.size, sizes, zT, Tm.size] <;> omega
      simp only [List.map_cons, sizesA, sizesD, List.length_cons]
      omega
  have := h1 c.args
  unfold compile
  rw [sizesD_append]
  simp only [sizesD, Cd.size, Cn.size, zT, Tm.size, sizes]
  omega
theorem kcon_same (c : Cn) (h : c.size ≤ 1048576) : FC Try.prog 19 [aC c, aC c] (.bool true) := by
  have := kcon_spec c c h
  rwa [decide_eq_true rfl] at this

/-- What is not heavy is small. -/
theorem lightA {l : List Ar} (h : heavyA l = false) : sizesA l ≤ 540000 ∧ l.length ≤ 20 := by
  simp only [heavyA, Bool.or_eq_false_iff, decide_eq_false_iff_not] at h
  obtain ⟨h1, h2⟩ := h
  rw [List.any_eq_false] at h2
  have h3 : ∀ a ∈ l, a.size ≤ 27000 := by
    intro a ha
    have := h2 a ha
    simp only [Bool.or_eq_true, not_or, Bool.not_eq_true] at this
    obtain ⟨⟨q1, q2⟩, q3⟩ := this
    have q1 := lightT q1
    have q2 := lightT q2
    have q3 := lightT q3
    simp only [sizes] at q1
    unfold Ar.size
    omega
  have h4 : ∀ m : List Ar, (∀ a ∈ m, a.size ≤ 27000) → sizesA m ≤ m.length * 27000 := by
    intro m
    induction m with
    | nil => intro _; simp [sizesA]
    | cons a m ih =>
      intro hm
      have q1 := hm a List.mem_cons_self
      have q2 := ih fun x hx => hm x (List.mem_cons_of_mem _ hx)
      simp only [sizesA, List.length_cons, Nat.add_mul]
      omega
  have h5 := h4 l h3
  have h6 : l.length * 27000 ≤ 20 * 27000 := Nat.mul_le_mul_right _ (by omega)
  exact ⟨by omega, by omega⟩
theorem lightC {c : Cn} (h : heavyC c = false) : c.size ≤ 560000 ∧ c.args.length ≤ 20 := by
  simp only [heavyC, Bool.or_eq_false_iff] at h
  obtain ⟨⟨h1, h2⟩, h3⟩ := h
  have h1 := lightA h1
  have h2 := lightT h2
  have h3 := lightT h3
  simp only [sizes] at h3
  unfold Cn.size
  omega
theorem light_con {b : Bl} (h : heavyB b = false) {c : Cn} (hc : c ∈ b.cons) : c.size ≤ 560000 ∧ c.args.length ≤ 20 := by
  simp only [heavyB, Bool.or_eq_false_iff] at h
  have h2 := h.2
  rw [List.any_eq_false] at h2
  exact lightC (Bool.eq_false_iff.2 (h2 c hc))

end Go.Proofs.Ytgjoeoojplbhpaa
