/-
  What is done in a part is done in the whole, in plain words.
-/
import Derived.Test.YtoknnfhgoikpiaaGreatGF
namespace Go.Proofs.YtoknnfhgoikpiaaGreat
set_option linter.unusedSimpArgs false
set_option linter.unusedVariables false
open Go.Aw Go.RowKit

theorem wholeT_not {t : Tm} (h : checkT t ≠ 0) : wholeT t = (zT, checkT t) := by unfold wholeT; rw [if_pos h]
theorem wholeT_is {t : Tm} (h : checkT t = 0) : wholeT t = (t, 0) := by unfold wholeT; rw [if_neg (by omega)]
theorem setT_twice (u v : Tm) : ∀ (p : List Int) (t : Tm), (findT t p).isSome = true → setT (setT t p u) p v = setT t p v
  | [], t, _ => rfl
  | k :: p, t, h => by
    simp only [findT] at h
    split at h
    · rename_i hk
      simp only [setT, mk_kids, mk_kind, mk_num]
      rw [getD_set _ _ (by omega), List.set_set, setT_twice u v p _ h]
    · cases h
theorem doR_eq (chk : Int) (lk : Tm → Option (Tm × Int)) (t : Tm) (p : List Int) (h0 : chk = 0) (h1 : checkT t = 0) : doR chk lk t p = if (makeR lk t p).2 ≠ 0 then (zT, (makeR lk t p).2) else ((makeR lk t p).1, 0) := by
  unfold doR; rw [if_neg (by omega), if_neg (by omega)]
theorem make_whole {lk : Tm → Option (Tm × Int)} {t v : Tm} {p : List Int} {r : Tm × Int} (hf : findT t p = some v) (hk : lk v = some r) (hr : r.2 = 0) : makeR lk t p = wholeT (setT t p r.1) := by
  unfold makeR; simp only [hf, hk]; rw [if_neg (by omega)]
theorem whole_pair (x : Tm) : (if (wholeT x).2 ≠ 0 then (zT, (wholeT x).2) else ((wholeT x).1, 0)) = wholeT x := by
  by_cases h : checkT x = 0
  · rw [wholeT_is h]; rfl
  · rw [wholeT_not h, if_pos h]
theorem parts {chk : Int} {lk : Tm → Option (Tm × Int)} {t u : Tm} {p q : List Int} (h : (putR t p u).2 = 0) :
    ((doR chk lk u q).2 ≠ 0 → (doR chk lk (putR t p u).1 (p ++ q)).2 = (doR chk lk u q).2 ∨ (doR chk lk (putR t p u).1 (p ++ q)).2 ≠ 0) ∧
    ((doR chk lk u q).2 = 0 → doR chk lk (putR t p u).1 (p ++ q) = putR (putR t p u).1 p (doR chk lk u q).1) := by
  obtain ⟨b1, b2, b3, b4, b5⟩ := put_ok h
  rw [b5]
  generalize hW : setT t p u = W at b4
  have hfW : findT W p = some u := by rw [← hW]; exact setT_find u p t b3
  have hfq : findT W (p ++ q) = findT u q := by rw [findT_append, hfW]; rfl
  have hsW : ∀ v, setT W (p ++ q) v = setT W p (setT u q v) := fun v => setT_append q v p W u hfW
  by_cases h0 : chk = 0
  · rw [doR_eq chk lk u q h0 b2, doR_eq chk lk W (p ++ q) h0 b4]
    cases hf : findT u q with
    | none =>
      rw [hf] at hfq
      have m1 : makeR lk u q = (zT, 10) := by unfold makeR; rw [hf]
      have m2 : makeR lk W (p ++ q) = (zT, 10) := by unfold makeR; rw [hfq]
      rw [m1, m2]
      exact ⟨fun _ => .inl rfl, fun e => by cases e⟩
    | some v =>
      rw [hf] at hfq
      cases hk : lk v with
      | none =>
        have m1 : makeR lk u q = (zT, 10) := by unfold makeR; simp only [hf, hk]
        have m2 : makeR lk W (p ++ q) = (zT, 10) := by unfold makeR; simp only [hfq, hk]
        rw [m1, m2]
        exact ⟨fun _ => .inl rfl, fun e => by cases e⟩
      | some r =>
        by_cases hr : r.2 = 0
        · rw [make_whole hf hk hr, make_whole hfq hk hr, whole_pair, whole_pair, hsW]
          by_cases hc : checkT (setT u q r.1) = 0
          · rw [wholeT_is hc]
            refine ⟨fun e => absurd rfl e, fun _ => ?_⟩
            unfold putR
            rw [if_neg (by omega), if_neg (by simp only; omega), if_pos (by rw [hfW]; rfl)]
          · rw [wholeT_not hc]
            refine ⟨fun _ => .inr fun e => hc ?_, fun e => absurd e hc⟩
            by_cases hc2 : checkT (setT W p (setT u q r.1)) = 0
            · exact check_sub hc2 (setT_find _ p W (by rw [hfW]; rfl))
            · rw [wholeT_not hc2] at e; exact absurd e hc2
        · have m1 : makeR lk u q = (zT, r.2) := by unfold makeR; simp only [hf, hk]; rw [if_pos hr]
          have m2 : makeR lk W (p ++ q) = (zT, r.2) := by unfold makeR; simp only [hfq, hk]; rw [if_pos hr]
          rw [m1, m2]
          exact ⟨fun _ => .inl rfl, fun e => by rw [if_pos hr] at e; exact absurd e hr⟩
  · have d1 : doR chk lk u q = (zT, chk) := by unfold doR; rw [if_pos h0]
    have d2 : doR chk lk W (p ++ q) = (zT, chk) := by unfold doR; rw [if_pos h0]
    rw [d1, d2]
    exact ⟨fun _ => .inl rfl, fun e => absurd e h0⟩
end Go.Proofs.YtoknnfhgoikpiaaGreat
