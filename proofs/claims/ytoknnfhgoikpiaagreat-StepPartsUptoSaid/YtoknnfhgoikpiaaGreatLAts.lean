/-
  What stands at a place, and at a place in that; what is put there.
-/
import Derived.Test.YtoknnfhgoikpiaaGreatGF
import Derived.Test.YtoknnfhgoikpiaaGreatGB
namespace Go.Proofs.YtoknnfhgoikpiaaGreat
set_option linter.unusedSimpArgs false
set_option linter.unusedVariables false
open Go.Aw Go.RowKit
attribute [local irreducible] WL AC WD WE MStep OkOp

theorem heavyP (a b : Tm) (h : a.size + b.size ≤ 1048576) : FC Tryz.prog 16 [.lst 3 [cT a, cT b] true] (.bool (heavyT [a, b])) := by
  have := (heavy2_spec [a, b] (by simp only [sizes]; omega)).args (xs := [.lst 3 (rsT [a, b]) true]) (.cons (.full _ _ _) .nil)
  rwa [rs2] at this
theorem atR_size {t : Tm} {p : List Int} : (atR t p).1.size ≤ t.size := by
  have hz : zT.size = 1 := rfl
  have hp := t.size_pos
  unfold atR
  split
  · simp only; omega
  · split
    · simp only; omega
    · rename_i u hu; exact findT_size p t u hu
theorem putR_size {t u : Tm} {p : List Int} : (putR t p u).1.size ≤ 6000 := by
  have hz : zT.size = 1 := rfl
  unfold putR
  split
  · simp only; omega
  · split
    · simp only; omega
    · split
      · exact wholeT_size _
      · simp only; omega

set_option maxHeartbeats 8000000 in
theorem stepAts_spec (t u : Tm) (p q : List Int) (h : t.size + u.size + p.length + q.length ≤ 1048576) : FC Tryz.prog 11 [aT t, aT u, sI p, sI q] (.bool true) := by
  have hv := heavyP t u (by omega)
  have hw := wakes15_spec
  have hall : (sI (p ++ q) : AV) = .lst 1 (([] ++ rsI p) ++ rsI q) false := by show AV.lst 1 (rsI (p ++ q)) false = _; rw [rsI_append]; rfl
  have hpl : (rsI p).length = p.length := rsI_length _
  have hql : (rsI q).length = q.length := rsI_length _
  have hA := at_spec t p (by omega) (by omega)
  have hB := at_spec t (p ++ q) (by omega) (by rw [List.length_append]; omega)
  have zA := atR_size (t := t) (p := p)
  have zB := atR_size (t := t) (p := p ++ q)
  have hC := at_spec (atR t p).1 q (by omega) (by omega)
  have hX := put_spec (atR t p).1 q u (by omega) (by omega) (by omega)
  have hY := put_spec t (p ++ q) u (by omega) (by rw [List.length_append]; omega) (by omega)
  have zX := putR_size (t := (atR t p).1) (u := u) (p := q)
  have zY := putR_size (t := t) (u := u) (p := p ++ q)
  have hZ := put_spec t p (putR (atR t p).1 q u).1 (by omega) (by omega) (by omega)
  have kBC := kterm_spec (atR t (p ++ q)).1 (atR (atR t p).1 q).1 (by omega)
  have kYZ := kterm_spec (putR t (p ++ q) u).1 (putR t p (putR (atR t p).1 q u).1).1 (by omega)
  have l1 : (atR t p).2 ≠ 0 → (atR t (p ++ q)).2 = (atR t p).2 := at_both
  have l2 : (atR t p).2 = 0 → (atR t (p ++ q)).2 = (atR (atR t p).1 q).2 ∧ decide ((atR t (p ++ q)).1 = (atR (atR t p).1 q).1) = true := fun e => by rw [at_in e]; exact ⟨rfl, decide_eq_true rfl⟩
  have l3 : (atR t p).2 = 0 → (putR (atR t p).1 q u).2 = 0 → (putR t (p ++ q) u).2 = 0 → (putR t p (putR (atR t p).1 q u).1).2 = 0 ∧ decide ((putR t (p ++ q) u).1 = (putR t p (putR (atR t p).1 q u).1).1) = true := fun e1 e2 e3 => by
    rw [put_in e1 e2 e3]; exact ⟨e3, decide_eq_true rfl⟩
  rw [hall] at hB hY
  generalize putR t p (putR (atR t p).1 q u).1 = Z at hZ kYZ l3
  generalize putR t (p ++ q) u = Y at hY kYZ l3
  generalize putR (atR t p).1 q u = X at hX hZ l3
  generalize atR (atR t p).1 q = C at hC kBC l2
  generalize atR t (p ++ q) = B at hB kBC l1 l2
  generalize atR t p = A at hA hC hX l1 l2 l3
  generalize decide (B.1 = C.1) = bBC at kBC l2
  generalize decide (Y.1 = Z.1) = bYZ at kYZ l3
  refine FC_intro hty Tryz.func11 rfl rfl rfl fun w0 => ?_
  repeat' (first | refine WL_callB rfl hv rfl (fun _ => ?_) (fun _ => ?_) | (refine AC_rgA (id := 3) ?_; refine AC_less (less_gone 200 rfl) ?_; refine AC_region ?_) | refine WL_m rfl (m_appG (id0 := 200) (rows := []) hty 201 rfl rfl rfl rfl rfl rfl rfl (by simp only [List.length_nil]; omega) rfl rfl rfl) ?_ | refine WL_m rfl (m_appG (id0 := 201) hty 202 rfl rfl rfl rfl rfl rfl rfl (by simp only [List.length_append, List.length_nil]; omega) rfl rfl rfl) ?_ | (refine AC_rgA (id := 4) ?_; refine AC_less (less_seeG 9 202 rfl rfl) ?_; refine AC_region ?_) | refine WL_call 0 rfl hA rfl rfl rfl ?_ | refine WL_call 0 rfl hB rfl rfl rfl ?_ | refine WL_call 0 rfl hC rfl rfl rfl ?_ | refine WL_call 0 rfl hX rfl rfl rfl ?_ | refine WL_call 0 rfl hY rfl rfl rfl ?_ | refine WL_call 0 rfl hZ rfl rfl rfl ?_ | refine WL_call 0 rfl hw rfl rfl rfl ?_ | refine WL_callB rfl kBC rfl (fun _ => ?_) (fun _ => ?_) | refine WL_callB rfl kYZ rfl (fun _ => ?_) (fun _ => ?_) | refine WL_p hty rfl rfl ?_ | refine WL_nil ?_ | refine AC_seq ?_ | refine AC_region ?_ | refine AC_skip ?_ | refine AC_condT rfl ?_ | refine AC_condF rfl ?_ | refine AC_ret ?_ | refine WL_ung rfl rfl ?_ | refine WL_offT rfl rfl rfl ?_ | refine WL_offF rfl rfl rfl ?_ | refine WL_offU rfl rfl rfl ?_ | refine ends_bool rfl ?_ | refine WL_cmp rfl rfl rfl rfl (fun _ => ?_) (fun _ => ?_) | refine AC_cond rfl (fun _ => ?_) (fun _ => ?_))
  all_goals first
    | rfl
    | (exfalso; have e := l1 (by assumption); omega)
    | (exfalso; obtain ⟨e1, e2⟩ := l2 (by omega); first | omega | (simp_all; done))
    | (exfalso; obtain ⟨e1, e2⟩ := l3 (by omega) (by omega) (by omega); first | omega | (simp_all; done))
end Go.Proofs.YtoknnfhgoikpiaaGreat
