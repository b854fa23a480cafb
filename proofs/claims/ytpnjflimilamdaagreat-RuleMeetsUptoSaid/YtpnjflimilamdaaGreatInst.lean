/-
  The plain law: how great the term is that comes of a term whose variables are replaced.
-/
import Derived.Test.YtpnjflimilamdaaGreatSubst4
namespace Go.Proofs.YtpnjflimilamdaaGreat
set_option linter.unusedSimpArgs false
set_option linter.unusedVariables false
open Go.Aw Go.RowKit

mutual
theorem mapT_vars (F : Int → Int → Tm) (hF : ∀ n b, (F n b).size = 1) : ∀ (t : Tm) (b : Int), (t.kind = 1 → t.kids = []) → (formedT t = true) → (mapT F b t).size = t.size
  | .mk k n l, b, _, hfm => by
    rw [mapT]
    split
    · rename_i hk
      subst hk
      have : l = [] := by
        have := formedT_eq (.mk 1 n l)
        rw [hfm] at this
        have := this.symm
        simp only [Bool.and_eq_true, decide_eq_true_eq, Tm.kids, Tm.kind, kidsR] at this
        have h1 := this.1.1
        simp at h1
        exact h1
      subst this
      rw [hF]; simp [Tm.size, sizes]
    · simp only [Tm.size]
      rw [mapTs_vars F hF k l b 0 (fun u hu => formedT_kids (t := .mk k n l) hfm hu)]
theorem mapTs_vars (F : Int → Int → Tm) (hF : ∀ n b, (F n b).size = 1) : ∀ (k : Int) (l : List Tm) (b i : Int), (∀ u, u ∈ l → formedT u = true) → sizes (mapTs F k b i l) = sizes l
  | _, [], _, _, _ => by simp [mapTs]
  | k, t :: l, b, i, h => by
    simp only [mapTs, sizes]
    rw [mapTs_vars F hF k l b (i + 1) (fun u hu => h u (List.mem_cons_of_mem _ hu)), mapT_vars F hF t (b + bindsR k i) (fun hk => by
      have := formedT_eq t
      rw [h t List.mem_cons_self, hk] at this
      have := this.symm
      simp only [Bool.and_eq_true, decide_eq_true_eq, kidsR] at this
      have h1 := this.1.1
      simp at h1
      exact h1) (h t List.mem_cons_self)]
end
theorem moved_size {t : Tm} {c : Int} (h : formedT t = true) : (movedT t c).size = t.size := by
  unfold movedT
  exact mapT_vars _ (fun n b => by unfold movF; simp [Tm.size, sizes]) t 0 (fun hk => by
      have := formedT_eq t
      rw [h, hk] at this
      have := this.symm
      simp only [Bool.and_eq_true, decide_eq_true_eq, kidsR] at this
      have h1 := this.1.1
      simp at h1
      exact h1) h

theorem mn40_eq {x : Int} (h : x ≤ 2000000000000) (h0 : 0 ≤ x) : mn40 (IntKind.i64.wrap x) = min x 1099511627776 := by
  rw [wrap_ok (by omega) (by omega)]; unfold mn40; split <;> omega

theorem lookV_size (j : Jb) (m : Nat) (n b d : Int) (h0 : 0 ≤ j.size ∧ j.size ≤ 1099511627776) (hg : ∀ g, g ∈ j.args → g.size = (g.t.size : Nat) ∧ g.t.size ≤ 1048576 ∧ formedT g.t = true) :
    (lookV j n b d).size = min (j.size + ((substF j m n b).size : Nat)) 1099511627776 := by
  unfold lookV substF
  split
  · rename_i hw
    obtain ⟨a, ha, hm⟩ := get_of_lt (whichJ_lt hw)
    have := hg a hm
    rw [List.getD_eq_getElem?_getD, ha, Option.getD_some, moved_size this.2.2]
    simp only [hitJ, this.1]
    exact mn40_eq (by omega) (by omega)
  · have e1 : ∀ x : Int, (Tm.mk 1 x []).size = 1 := fun x => by simp [Tm.size, sizes]
    have : (if j.under + b ≤ n then Tm.mk 1 (IntKind.i64.wrap (n - (m : Nat))) [] else Tm.mk 1 n []).size = 1 := by split <;> exact e1 _
    rw [this]
    simp only [nodeJ]
    exact mn40_eq (by omega) (by omega)

theorem substF_keep {j j' : Jb} (h1 : j'.args = j.args) (h2 : j'.under = j.under) (m : Nat) : substF j' m = substF j m := by
  funext n b; unfold substF; rw [h1, h2]

theorem size_ok {j : Jb} (x : Int) (hx : 0 ≤ x) (h : j.size = min x 1099511627776) : 0 ≤ j.size ∧ j.size ≤ 1099511627776 := by omega

mutual
theorem lookT_size (m : Nat) : ∀ (t : Tm) (j : Jb) (b d : Int), 0 ≤ j.size ∧ j.size ≤ 1099511627776 → (∀ g, g ∈ j.args → g.size = (g.t.size : Nat) ∧ g.t.size ≤ 1048576 ∧ formedT g.t = true) →
    (lookT t j b d).size = min (j.size + ((mapT (substF j m) b t).size : Nat)) 1099511627776
  | .mk k n l, j, b, d, h0, hg => by
    rw [lookT, mapT]
    split
    · exact lookV_size j m n b d h0 hg
    · have hn : (nodeJ j d).size = min (j.size + 1) 1099511627776 := mn40_eq (by omega) (by omega)
      have := lookTs_size m k l 0 (nodeJ j d) b d (by omega) hg
      rw [this, hn, substF_keep (show (nodeJ j d).args = j.args from rfl) (show (nodeJ j d).under = j.under from rfl)]
      simp only [Tm.size]
      omega
theorem lookTs_size (m : Nat) : ∀ (k : Int) (l : List Tm) (i : Int) (j : Jb) (b d : Int), 0 ≤ j.size ∧ j.size ≤ 1099511627776 → (∀ g, g ∈ j.args → g.size = (g.t.size : Nat) ∧ g.t.size ≤ 1048576 ∧ formedT g.t = true) →
    (lookTs k i l j b d).size = min (j.size + (sizes (mapTs (substF j m) k b i l) : Nat)) 1099511627776
  | k, [], i, j, b, d, h0, _ => by rw [lookTs]; simp only [mapTs, sizes]; omega
  | k, t :: l, i, j, b, d, h0, hg => by
    have h1 := lookT_size m t j (b + bindsR k i) (d + 1) h0 hg
    obtain ⟨k1, k2⟩ := lookT_keep t j (b + bindsR k i) (d + 1)
    have h2 := lookTs_size m k l (i + 1) (lookT t j (b + bindsR k i) (d + 1)) b d (by omega) (by rw [k1]; exact hg)
    rw [lookTs, h2, h1, substF_keep k1 k2]
    simp only [mapTs, sizes]
    omega
end

/-- What is told is no greater than is told of it. -/
theorem inst_size (t : Tm) (args : List Tm) (under : Int) : (instT t args under).1.size ≤ 6000 := by
  unfold instT
  split
  · simp [zT, Tm.size, sizes]
  · rename_i he
    have he : openE t args under = 0 := by omega
    split
    · simp [zT, Tm.size, sizes]
    · split
      · simp [zT, Tm.size, sizes]
      · split
        · simp [zT, Tm.size, sizes]
        · rename_i h6 _
          have hfn : ∀ a, a ∈ args → checkT a = 0 := by
            intro a ha
            unfold openE at he
            split at he
            · omega
            · split at he
              · rename_i q
                have := List.find?_some q
                simp at this
                omega
              · rename_i q
                have := List.find?_eq_none.1 q a ha
                simpa using this
          have hj0 : ∀ g, g ∈ (⟨args.map gOf, under, false, 0, 0⟩ : Jb).args → g.size = (g.t.size : Nat) ∧ g.t.size ≤ 1048576 ∧ formedT g.t = true := by
            intro g hg
            obtain ⟨a, ha, rfl⟩ := List.mem_map.1 hg
            have := checkT_ok (hfn a ha)
            exact ⟨rfl, by show a.size ≤ _; omega, this.2.2⟩
          have := lookT_size args.length t ⟨args.map gOf, under, false, 0, 0⟩ 0 0 ⟨Int.le_refl 0, by show (0 : Int) ≤ 1099511627776; omega⟩ hj0
          obtain ⟨k1, k2⟩ := lookT_keep t ⟨args.map gOf, under, false, 0, 0⟩ 0 0
          have hkeep : substF (jobT t args under) args.length = substF ⟨args.map gOf, under, false, 0, 0⟩ args.length := substF_keep k1 k2 _
          have hs : (jobT t args under).size = min ((0 : Int) + ((mapT (substF (jobT t args under) args.length) 0 t).size : Nat)) 1099511627776 := by
            rw [hkeep]; exact this
          show (mapT (substF (jobT t args under) args.length) 0 t).size ≤ 6000
          omega

end Go.Proofs.YtpnjflimilamdaaGreat
