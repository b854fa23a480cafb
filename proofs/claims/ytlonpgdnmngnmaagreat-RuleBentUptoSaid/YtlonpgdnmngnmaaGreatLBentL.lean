/-
  Entries that are bent: a right row is right no more.
-/
import Derived.Test.YtlonpgdnmngnmaaGreatGF
namespace Go.Proofs.YtlonpgdnmngnmaaGreat
set_option linter.unusedSimpArgs false
set_option linter.unusedVariables false
open Go.Aw Go.RowKit

theorem row_known_aux (l : List En) : ∀ j, j ≤ l.length → rowOK (fun _ => none) 0 (l.take j) = true → (∀ x b, seenE (l.take j) x = some b → knownB b x = true) ∧ ∀ e, e ∈ l.take j → ¬ e.kind < 3 → knownB e.block e.base = true := by
  intro j
  induction j with
  | zero => exact fun _ _ => ⟨fun x b h => (by simp [seenE] at h), fun e he => by simp at he⟩
  | succ j ih =>
    intro hj h
    obtain ⟨e, he, hm⟩ := get_of_lt (show j < l.length by omega)
    rw [rowOK_next he, Bool.and_eq_true] at h
    obtain ⟨h1, h2⟩ := ih (by omega) h.1
    have h3 := h.2
    unfold entryB at h3
    simp only [Bool.and_eq_true, Bool.or_eq_true, decide_eq_true_eq] at h3
    have hkn : ¬ e.kind < 3 → knownB e.block e.base = true := fun hk => by
      have h4 := h3.2.resolve_left hk
      unfold freshB at h4
      split at h4
      · rename_i b hb
        rw [← of_decide_eq_true h4]; exact h1 _ _ hb
      · exact h4
    rw [seenE_next he]
    refine ⟨fun x b hx => ?_, fun f hf hk => ?_⟩
    · unfold put1 at hx
      split at hx
      · exact h1 x b hx
      · rename_i hk
        dsimp only at hx
        split at hx
        · rename_i e1
          rw [← Option.some.inj hx, e1]; exact hkn hk
        · exact h1 x b hx
    · rw [List.take_add_one, he, Option.toList_some] at hf
      rcases List.mem_append.1 hf with q | q
      · exact h2 f q hk
      · rw [List.mem_singleton.1 q] at hk ⊢; exact hkn hk
theorem envI_ok {l : List En} (h : envI l = 0) : l.length ≤ 200 ∧ rowOK (fun _ => none) 0 l = true := by
  unfold envI at h
  split at h
  · cases h
  · split at h
    · exact ⟨by omega, by assumption⟩
    · cases h
theorem env_known {l : List En} (h : envI l = 0) {e : En} (he : e ∈ l) (hk : ¬ e.kind < 3) : knownB e.block e.base = true := by
  have h2 := (envI_ok h).2
  have := (row_known_aux l l.length (Nat.le_refl _) (by rw [List.take_length]; exact h2)).2 e
  rw [List.take_length] at this
  exact this he hk
theorem env_right {l : List En} (h : envI l = 0) {n : Nat} {e : En} (he : l[n]? = some e) : rightE e (n : Nat) = true := by
  have h2 := (envI_ok h).2
  rw [rowOK_split he (fun _ => none) 0] at h2
  simp only [Bool.and_eq_true, entryB] at h2
  have := h2.2.1.1
  rwa [Nat.zero_add] at this
theorem known_lens {b : Bl} {base : Int} (h : knownB b base = true) : b.sorts.length ≤ 4 ∧ b.cons.length ≤ 8 ∧ shapeB b = true := by
  simp only [knownB, Bool.and_eq_true, decide_eq_true_eq] at h
  have hs := positI_shape h.1
  have hs' := hs
  simp only [shapeB, Bool.and_eq_true, inR, decide_eq_true_eq] at hs
  exact ⟨by omega, hs.2.1, hs'⟩

theorem place_eq {base a k m i : Int} (h : placeI base a k m = i) (hi : 0 ≤ i) : 0 ≤ base ∧ base ≤ 65535 ∧ 0 ≤ k ∧ k < m ∧ i = base + a + k := by
  unfold placeI at h
  repeat' (split at h)
  all_goals omega
theorem dec_eq {b : Bl} {base k i : Int} (h : decoderI b base k = i) (hi : 0 ≤ i) : 0 ≤ base ∧ 0 ≤ k ∧ k < b.sorts.length ∧ i = base + b.sorts.length + decsN (b.sorts.take k.toNat) := by
  unfold decoderI at h
  split at h
  · omega
  · split at h
    · omega
    · split at h
      · have := place_eq h hi
        exact ⟨this.1, by omega, by omega, this.2.2.2.2⟩
      · omega

/-- What can be told of an entry of a right row. -/
theorem right_facts {e : En} {i : Int} (h : rightE e i = true) (hi : 0 ≤ i) : (e.kind = 1 ∧ e.base = 0 ∧ e.which = 0 ∧ e.body = zT) ∨ (e.kind = 2 ∧ e.base = 0 ∧ e.which = 0) ∨
    ((e.kind = 3 ∨ e.kind = 4 ∨ e.kind = 5 ∨ e.kind = 6) ∧ e.body = zT ∧ numberI e = i) := by
  unfold rightE at h
  rw [Bool.and_eq_true] at h
  have h := h.2
  split at h
  · simp only [Bool.and_eq_true, decide_eq_true_eq] at h
    exact .inl ⟨by assumption, h.1, h.2.1, h.2.2.2⟩
  · split at h
    · simp only [Bool.and_eq_true, decide_eq_true_eq] at h
      exact .inr (.inl ⟨by assumption, h.1, h.2.1⟩)
    · split at h
      · simp only [Bool.and_eq_true, decide_eq_true_eq] at h
        exact .inr (.inr ⟨by assumption, h.1, h.2.2⟩)
      · cases h

theorem bent_typ {e : En} {n : Nat} {t : Tm} (h : scopeT t 0 (n : Nat) = false) : rightE { e with typ := t } (n : Nat) = false := by
  unfold rightE
  simp only [h, Bool.false_and]
theorem bent_C (n : Nat) : scopeT (.mk 3 (n : Nat) []) 0 (n : Nat) = false := by
  unfold scopeT
  simp [scopedT]
theorem bent_V (n : Nat) : scopeT (.mk 1 0 []) 0 (n : Nat) = false := by
  unfold scopeT
  simp [scopedT]
theorem zT_scope (v c : Int) : scopeT zT v c = false := by
  have : checkT zT = 1 := by kernel_rfl
  unfold scopeT
  rw [this]; simp
theorem bent_body2 {e : En} {n : Nat} (h : e.kind = 2) : rightE { e with body := zT } (n : Nat) = false := by
  unfold rightE
  simp only [h, zT_scope]
  simp
theorem bent_bodyU {e : En} {n : Nat} (h : ¬ e.kind = 2) : rightE { e with body := .mk 2 0 [] } (n : Nat) = false := by
  have hu : decide (Tm.mk 2 0 [] = zT) = false := decide_eq_false (by simp [zT])
  unfold rightE
  simp only [hu, if_neg h]
  split
  · simp
  · split <;> simp
theorem bent_base {e : En} {n : Nat} (h : rightE e (n : Nat) = true) : rightE { e with base := e.base + 1 } (n : Nat) = false := by
  cases hq : rightE { e with base := e.base + 1 } (n : Nat) with
  | false => rfl
  | true =>
    exfalso
    have h1 := right_facts h (Int.natCast_nonneg _)
    have h2 := right_facts hq (Int.natCast_nonneg _)
    simp only at h2
    rcases h1 with q | q | q
    · rcases h2 with r | r | r <;> omega
    · rcases h2 with r | r | r <;> omega
    · rcases h2 with r | r | r
      · omega
      · omega
      · have g1 := q.2.2
        have g2 := r.2.2
        unfold numberI at g1 g2
        simp only at g2
        split at g1
        · rename_i hk
          rw [if_pos hk] at g2
          have := place_eq g1 (Int.natCast_nonneg _)
          have := place_eq g2 (Int.natCast_nonneg _)
          omega
        · rename_i hk
          rw [if_neg hk] at g2
          split at g1
          · rename_i hk
            rw [if_pos hk] at g2
            have := dec_eq g1 (Int.natCast_nonneg _)
            have := dec_eq g2 (Int.natCast_nonneg _)
            omega
          · rename_i hk
            rw [if_neg hk] at g2
            split at g1
            · rename_i hk
              rw [if_pos hk] at g2
              have := place_eq g1 (Int.natCast_nonneg _)
              have := place_eq g2 (Int.natCast_nonneg _)
              omega
            · rename_i hk
              rw [if_neg hk] at g2
              have := place_eq g1 (Int.natCast_nonneg _)
              have := place_eq g2 (Int.natCast_nonneg _)
              omega
theorem bent_kind {e : En} {n : Nat} : rightE { e with kind := 7 } (n : Nat) = false := by
  unfold rightE
  simp
/-- Which one of its kind an entry is. -/
theorem which_small {l : List En} (h : envI l = 0) {n : Nat} {e : En} (he : l[n]? = some e) : 0 ≤ e.which ∧ e.which < 8 := by
  have hr := env_right h he
  rcases right_facts hr (Int.natCast_nonneg _) with q | q | q
  · omega
  · omega
  · have hk := known_lens (env_known h (List.mem_of_getElem? he) (by omega))
    have g1 := q.2.2
    unfold numberI at g1
    split at g1
    · have := place_eq g1 (Int.natCast_nonneg _); omega
    · split at g1
      · have := dec_eq g1 (Int.natCast_nonneg _); omega
      · split at g1
        · have := place_eq g1 (Int.natCast_nonneg _); omega
        · have := place_eq g1 (Int.natCast_nonneg _); omega
theorem base_small {l : List En} (h : envI l = 0) {n : Nat} {e : En} (he : l[n]? = some e) : 0 ≤ e.base ∧ e.base ≤ 65535 := by
  have hr := env_right h he
  rcases right_facts hr (Int.natCast_nonneg _) with q | q | q
  · omega
  · omega
  · exact right_base hr (by omega) (Int.natCast_nonneg _)
theorem bent_which {l : List En} (h : envI l = 0) {n : Nat} {e : En} (he : l[n]? = some e) : rightE { e with which := e.which - 100 } (n : Nat) = false := by
  have hw := which_small h he
  have hr := env_right h he
  cases hq : rightE { e with which := e.which - 100 } (n : Nat) with
  | false => rfl
  | true =>
    exfalso
    have h2 := right_facts hq (Int.natCast_nonneg _)
    simp only at h2
    rcases h2 with r | r | r
    · omega
    · omega
    · have g2 := r.2.2
      unfold numberI at g2
      simp only at g2
      split at g2
      · have := place_eq g2 (Int.natCast_nonneg _); omega
      · split at g2
        · have := dec_eq g2 (Int.natCast_nonneg _); omega
        · split at g2
          · have := place_eq g2 (Int.natCast_nonneg _); omega
          · have := place_eq g2 (Int.natCast_nonneg _); omega

theorem bent_env {l : List En} {n : Nat} {e : En} (hl : l.length ≤ 200) (hn : n < l.length) (h : rightE e (n : Nat) = false) : envI (l.set n e) = 12 := by
  have hg : (l.set n e)[n]? = some e := by rw [List.getElem?_set_self hn]
  unfold envI
  rw [if_neg (by rw [List.length_set]; omega), if_neg]
  rw [rowOK_not hg (by unfold entryB; rw [h]; rfl)]
  exact Bool.false_ne_true
theorem sizesE_set : ∀ (l : List En) (n : Nat) (e' : En) {e : En}, l[n]? = some e → sizesE (l.set n e') + e.size = sizesE l + e'.size
  | [], _, _, _, h => by simp at h
  | a :: l, 0, e', e, h => by
    obtain rfl := Option.some.inj (show some a = some e from h)
    simp only [List.set_cons_zero, sizesE]; omega
  | a :: l, n + 1, e', e, h => by
    have := sizesE_set l n e' (e := e) (by simpa using h)
    simp only [List.set_cons_succ, sizesE]; omega
theorem rsE_set (l : List En) (n : Nat) (e : En) : (rsE l).set n (cE e) = rsE (l.set n e) := by
  rw [rsE_map, rsE_map, List.map_set]

end Go.Proofs.YtlonpgdnmngnmaaGreat
