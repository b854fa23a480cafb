/-
  What is put at a place stands there, and what stood there put back makes the term again.
-/
import Derived.Test.YtoknnfhgoikpiaaGreatLAts
namespace Go.Proofs.YtoknnfhgoikpiaaGreat
set_option linter.unusedSimpArgs false
set_option linter.unusedVariables false
open Go.Aw Go.RowKit
def tbPlaces10_11 : List (Nat × List Nat) := [(0, []), (1, []), (2, []), (3, [1, 2]), (4, []), (5, [4]), (6, [4, 5]), (7, [4, 5, 6]), (8, [1, 2, 3, 4, 5, 6, 7]), (9, [0, 1, 2, 3, 4, 5, 6, 7, 8]), (10, [0, 1, 2, 3, 4, 5, 6, 7, 8, 9]), (11, [0, 1, 2, 3, 4, 5, 6, 7, 8, 9, 10]), (12, [0, 1, 2, 3, 4, 5, 6, 7, 8, 9, 10]), (13, []), (14, [0, 1, 2, 3, 4, 5, 6, 7, 8, 9, 10, 11, 13]), (15, [0, 1, 2, 3, 4, 5, 6, 7, 8, 9, 10, 11, 12, 13, 14])]
def tbPlaces10_12 : List (Nat × List Nat) := [(0, []), (1, [0]), (2, [0, 1]), (3, [0, 1, 2]), (4, [0, 1, 2]), (5, [0, 1, 2, 3, 4]), (6, [0, 1, 2, 3, 4, 5]), (7, [0, 1, 2, 3, 4, 5, 6]), (8, [0, 1, 2, 3, 4, 5, 6, 7]), (9, [0, 1, 2, 3, 4, 5, 6, 7, 8]), (10, [0, 1, 2, 3, 4, 5, 6, 7, 8, 9]), (11, [0, 1, 2, 3, 4, 5, 6, 7, 8, 9, 10]), (12, [0, 1, 2, 3, 4, 5, 6, 7, 8, 9, 10, 11]), (13, [0, 1, 2, 3, 4, 5, 6, 7, 8, 9, 10, 11]), (14, [0, 1, 2, 3, 4, 5, 6, 7, 8, 9, 10, 11, 12, 13]), (15, [0, 1, 2, 3, 4, 5, 6, 7, 8, 9, 10, 11, 12, 13, 14]), (16, [0, 1, 2, 3, 4, 5, 6, 7, 8, 9, 10, 11, 12, 13, 14, 15]), (17, [0, 1, 2, 3, 4, 5, 6, 7, 8, 9, 10, 11, 12, 13, 14, 15, 16]), (18, [0, 1, 2, 3, 4, 5, 6, 7, 8, 9, 10, 11, 12, 13, 14, 15, 16, 17]), (19, [0, 1, 2, 3, 4, 5, 6, 7, 8, 9, 10, 11, 12, 13, 14, 15, 16]), (20, [0, 1, 2, 3, 4, 5, 6, 7, 8, 9, 10, 11, 12, 13, 14, 15, 16, 17, 18, 19]), (21, [0, 1, 2, 3, 4, 5, 6, 7, 8, 9, 10, 11, 12, 13, 14, 15, 16]), (22, [0, 1, 2, 3, 4, 5, 6, 7, 8, 9, 10, 11, 12, 13, 14, 15, 16, 17, 18, 19, 20, 21]), (23, [0, 1, 2, 3, 4, 5, 6, 7, 8, 9, 10, 11, 12, 13, 14, 15, 16, 17, 18, 19, 20, 21, 22]), (24, [0, 1, 2, 3, 4, 5, 6, 7, 8, 9, 10, 11, 12, 13, 14, 15, 16]), (25, [0, 1, 2, 3, 4, 5, 6, 7, 8, 9, 10, 11, 12, 13, 14, 15, 16, 17, 18, 19, 20, 21, 22, 24]), (26, [0, 1, 2, 3, 4, 5, 6, 7, 8, 9, 10, 11, 12, 13, 14, 15, 16, 17, 18, 19, 20, 21, 22, 23, 24, 25]), (27, [0, 1, 2, 3, 4, 5, 6, 7, 8, 9, 10, 11, 12, 13, 14, 15, 16, 17, 18, 19, 20, 21, 22, 23, 24, 25, 26]), (28, [0, 1, 2, 3, 4, 5, 6, 7, 8, 9, 10, 11, 12, 13, 14, 15, 16, 17, 18, 19, 20, 21, 22, 23, 24, 25, 26, 27]), (29, [0, 1, 2, 3, 4, 5, 6, 7, 8, 9, 10, 11, 12, 13, 14, 15, 16, 17, 18, 19, 20, 21, 22, 23, 24, 25, 26, 27, 28]), (30, [0, 1, 2, 3, 4, 5, 6, 7, 8, 9, 10, 11, 12, 13, 14, 15, 16, 17, 18, 19, 20, 21, 22, 23, 24, 25, 26, 27, 28, 29]), (31, [0, 1, 2, 3, 4, 5, 6, 7, 8, 9, 10, 11, 12, 13, 14, 15, 16, 17, 18, 19, 20, 21, 22, 23, 24, 25, 26, 27, 28, 29, 30]), (32, [0, 1, 2, 3, 4, 5, 6, 7, 8, 9, 10, 11, 12, 13, 14, 15, 16, 17, 18, 19, 20, 21, 22, 23, 24, 25, 26, 27, 28, 29, 30, 31]), (33, [0, 1, 2, 3, 4, 5, 6, 7, 8, 9, 10, 11, 12, 13, 14, 15, 16, 17, 18, 19, 20, 21, 22, 23, 24, 25, 26, 27, 28, 29, 30, 31, 32]), (34, [0, 1, 2, 3, 4, 5, 6, 7, 8, 9, 10, 11, 12, 13, 14, 15, 16, 17, 18, 19, 20, 21, 22, 23, 24, 25, 26, 27, 28, 29, 30, 31, 32, 33]), (35, [0, 1, 2, 3, 4, 5, 6, 7, 8, 9, 10, 11, 12, 13, 14, 15, 16, 17, 18, 19, 20, 21, 22, 23, 24, 25, 26, 27, 28, 29, 30, 31, 32, 33, 34]), (36, [0, 1, 2, 3, 4, 5, 6, 7, 8, 9, 10, 11, 12, 13, 14, 15, 16, 17, 18, 19, 20, 21, 22, 23, 24, 25, 26, 27, 28, 29, 30, 31, 32, 33, 34, 35])]
attribute [local irreducible] WL AC WD WE MStep OkOp

set_option maxHeartbeats 16000000 in
theorem stepPlaces_spec (t u : Tm) (p : List Int) (h : t.size + u.size + p.length ≤ 1048576) : FC Tryz.prog 10 [aT t, aT u, sI p] (.bool true) := by
  have hp1 := t.size_pos
  have hp2 := u.size_pos
  have hv := heavyP t u (by omega)
  have hw := wakes15_spec
  have hpl : (rsI p).length = p.length := rsI_length _
  have zA := atR_size (t := t) (p := p)
  have zB := putR_size (t := t) (u := u) (p := p)
  have hA := at_spec t p (by omega) (by omega)
  have hB := put_spec t p u (by omega) (by omega) (by omega)
  have hC := at_spec (putR t p u).1 p (by omega) (by omega)
  have hD := put_spec (putR t p u).1 p (atR t p).1 (by omega) (by omega) (by omega)
  have hI := at_spec t (p ++ [((atR t p).1.kids.length : Int)]) (by omega) (by rw [List.length_append]; simp only [List.length_cons, List.length_nil]; omega)
  have hcu := tcheck_spec u (by omega)
  have zC := atR_size (t := (putR t p u).1) (p := p)
  have zD := putR_size (t := (putR t p u).1) (u := (atR t p).1) (p := p)
  have kC := kterm_spec (atR (putR t p u).1 p).1 u (by omega)
  have kD := kterm_spec (putR (putR t p u).1 p (atR t p).1).1 t (by omega)
  have s1 := tsize_spec (putR t p u).1 (by omega)
  have s2 := tsize_spec t (by omega)
  have s3 := tsize_spec (atR t p).1 (by omega)
  have s4 := tsize_spec u (by omega)
  have l1 : (atR t p).2 ≠ 0 → (putR t p u).2 ≠ 0 := put_bad
  have l2 : (atR t p).2 = 0 → (putR t p u).2 = checkT u ∨ (putR t p u).2 = 4 ∨ (putR t p u).2 = 5 := put_why
  have l3 : (atR t p).2 = 0 → (putR t p u).2 = 0 → (atR (putR t p u).1 p).2 = 0 ∧ decide ((atR (putR t p u).1 p).1 = u) = true ∧ (putR (putR t p u).1 p (atR t p).1).2 = 0 ∧ decide ((putR (putR t p u).1 p (atR t p).1).1 = t) = true ∧
      (putR t p u).1.size + (atR t p).1.size = t.size + u.size ∧ (atR t (p ++ [((atR t p).1.kids.length : Int)])).2 = 10 := fun e1 e2 => by
    obtain ⟨q1, q2, q3, q4⟩ := places e1 e2
    rw [q1, q2]; exact ⟨rfl, decide_eq_true rfl, rfl, decide_eq_true rfl, q3, q4⟩
  have w1 : ∀ a b : Nat, a ≤ 1048576 → b ≤ 1048576 → IntKind.i64.wrap ((a : Int) - b) = (a : Int) - b := fun a b h1 h2 => wrap_ok (by omega) (by omega)
  have hkl : (rsT (atR t p).1.kids).length = (atR t p).1.kids.length := rsT_length _
  have hall : (sI (p ++ [((atR t p).1.kids.length : Int)]) : AV) = .lst 1 (rsI p ++ [[.int .i64 ((rsT (atR t p).1.kids).length : Nat)]]) false := by
    show AV.lst 1 (rsI (p ++ [((atR t p).1.kids.length : Int)])) false = _; rw [rsI_append, hkl]; rfl
  rw [hall] at hI
  have hwz : IntKind.i64.wrap (IntKind.i64.wrap ((t.size : Nat) - ((atR t p).1.size : Nat) : Int) + (u.size : Nat)) = (t.size : Int) - (atR t p).1.size + u.size := by
    rw [w1 t.size (atR t p).1.size (by omega) (by omega)]; exact wrap_ok (by omega) (by omega)
  generalize atR t (p ++ [((atR t p).1.kids.length : Int)]) = I at hI l3
  generalize putR (putR t p u).1 p (atR t p).1 = D at hD kD l3
  generalize atR (putR t p u).1 p = C at hC kC l3
  generalize putR t p u = B at *
  generalize atR t p = A at *
  generalize decide (C.1 = u) = bC at kC l3
  generalize decide (D.1 = t) = bD at kD l3
  show FC Tryz.prog 10 [aT t, aT u, .lst 1 (rsI p) false] _
  dsimp only [sI] at hA hB hC hD
  generalize rsI p = rp at *
  obtain ⟨A, a⟩ := A
  obtain ⟨B, b⟩ := B
  obtain ⟨C, c⟩ := C
  obtain ⟨D, d⟩ := D
  obtain ⟨I, i⟩ := I
  simp only at hA hB hC hD hI kC kD s1 s3 l1 l2 l3 hwz hkl zA zB zC zD
  by_cases ha : a = 0
  · subst ha
    by_cases hb : b = 0
    · subst hb
      obtain ⟨rfl, rfl, rfl, rfl, e5, rfl⟩ := l3 rfl rfl
      refine FC_intro hty Tryz.func10 rfl rfl rfl fun w0 => ?_
      cases rp
      all_goals
        repeat' (first | refine WL_callB rfl hv rfl (fun _ => ?_) (fun _ => ?_) | refine WL_call 0 rfl hA rfl rfl rfl ?_ | refine WL_call 0 rfl hB rfl rfl rfl ?_ | refine WL_call 0 rfl hC rfl rfl rfl ?_ | refine WL_call 0 rfl hD rfl rfl rfl ?_ | refine WL_call 0 rfl hw rfl rfl rfl ?_ | refine WL_call 0 rfl hcu rfl rfl rfl ?_ | (refine AC_rgA (id := 11) ?_; refine AC_less (less_sub (l := [(2, _), (3, _), (4, _), (7, _), (9, _), (11, _), (12, _), (13, _), (14, _)]) (bl := [(3, _), (4, _), (7, _), (9, _), (11, _), (13, _)]) ⟨⟨_, rfl, .inl ⟨.refl _, rfl⟩⟩, ⟨_, rfl, .inl ⟨.refl _, rfl⟩⟩, ⟨_, rfl, .inl ⟨.refl _, rfl⟩⟩, ⟨_, rfl, .inl ⟨.refl _, rfl⟩⟩, ⟨_, rfl, .inl ⟨.refl _, rfl⟩⟩, ⟨_, rfl, .inl ⟨.refl _, rfl⟩⟩, ⟨_, rfl, .inl ⟨.refl _, rfl⟩⟩, ⟨_, rfl, .inl ⟨.refl _, rfl⟩⟩, ⟨_, rfl, .inl ⟨.refl _, rfl⟩⟩, trivial⟩ ⟨⟨⟨_, rfl, .refl _⟩, rfl⟩, ⟨⟨_, rfl, .refl _⟩, rfl⟩, ⟨⟨_, rfl, .refl _⟩, rfl⟩, ⟨⟨_, rfl, .refl _⟩, rfl⟩, ⟨⟨_, rfl, .refl _⟩, rfl⟩, ⟨⟨_, rfl, .refl _⟩, rfl⟩, trivial⟩) ?_; refine AC_drawnE (id := 11) tbPlaces10_11 rfl (by kernel_rfl) ?_) | refine WE_m rfl (m_app0 (d := some 80) hty rfl rfl rfl rfl rfl rfl rfl) ?_ | refine WE_m rfl (m_appF (d := some 80) hty 201 rfl rfl rfl rfl rfl rfl rfl (List.cons_ne_nil _ _) (by simp only [List.length_nil, List.length_cons] at *; omega) rfl rfl rfl) ?_ | refine WE_m rfl (m_appFz (d := some 85) hty 202 rfl rfl rfl rfl rfl rfl rfl (List.cons_ne_nil _ _) (by simp only [List.length_nil, List.length_cons]; omega) rfl rfl rfl) ?_ | refine WE_m rfl (m_appWz (d := some 85) hty 202 rfl rfl rfl rfl rfl rfl rfl rfl (List.cons_ne_nil _ _) (by simp only [List.length_append, List.length_nil, List.length_cons] at *; omega) rfl rfl rfl) ?_ | refine WE_call 0 rfl hI rfl rfl rfl ?_ | (refine AC_rgA (id := 12) ?_; refine AC_less (less_sub (l := [(3, _), (4, _), (7, _), (9, _), (11, _), (12, _), (13, _), (14, _), (16, _)]) (bl := [(3, _), (4, _), (7, _), (9, _), (11, _), (13, _)]) ⟨⟨_, rfl, .inl ⟨.refl _, rfl⟩⟩, ⟨_, rfl, .inl ⟨.refl _, rfl⟩⟩, ⟨_, rfl, .inl ⟨.refl _, rfl⟩⟩, ⟨_, rfl, .inl ⟨.refl _, rfl⟩⟩, ⟨_, rfl, .inl ⟨.refl _, rfl⟩⟩, ⟨_, rfl, .inl ⟨.refl _, rfl⟩⟩, ⟨_, rfl, .inl ⟨.refl _, rfl⟩⟩, ⟨_, rfl, .inl ⟨.refl _, rfl⟩⟩, ⟨_, rfl, .inl ⟨.refl _, rfl⟩⟩, trivial⟩ ⟨⟨⟨_, rfl, .refl _⟩, rfl⟩, ⟨⟨_, rfl, .refl _⟩, rfl⟩, ⟨⟨_, rfl, .refl _⟩, rfl⟩, ⟨⟨_, rfl, .refl _⟩, rfl⟩, ⟨⟨_, rfl, .refl _⟩, rfl⟩, ⟨⟨_, rfl, .refl _⟩, rfl⟩, trivial⟩) ?_; refine AC_drawnE (id := 12) tbPlaces10_12 rfl (by kernel_rfl) ?_) | refine WE_call 0 rfl kC rfl rfl rfl ?_ | refine WE_call 0 rfl kD rfl rfl rfl ?_ | refine WE_call 0 rfl s1 rfl rfl rfl ?_ | refine WE_call 0 rfl s2 rfl rfl rfl ?_ | refine WE_call 0 rfl s3 rfl rfl rfl ?_ | refine WE_call 0 rfl s4 rfl rfl rfl ?_ | refine WE_call 0 rfl hw rfl rfl rfl ?_ | exact absurd rfl ‹_› | refine WE_cons (.inl ⟨rfl, stepE_ok hty rfl rfl⟩) ?_ | refine WE_ung rfl rfl ?_ | refine WE_offT rfl rfl rfl ?_ | refine WE_offF rfl rfl rfl ?_ | refine WE_offU rfl rfl rfl ?_ | refine WE_nil ⟨by kernel_rfl, ?_⟩ | refine WL_p hty rfl rfl ?_ | refine WL_nil ?_ | refine AC_seq ?_ | refine AC_region ?_ | refine AC_skip ?_ | refine AC_condT rfl ?_ | refine AC_condF rfl ?_ | refine AC_ret ?_ | refine WL_ung rfl rfl ?_ | refine WL_offT rfl rfl rfl ?_ | refine WL_offF rfl rfl rfl ?_ | refine WL_offU rfl rfl rfl ?_ | refine ends_bool rfl ?_ | refine WL_cmp rfl rfl rfl rfl (fun _ => ?_) (fun _ => ?_) | refine AC_cond rfl (fun _ => ?_) (fun _ => ?_) | refine WE_cmp rfl rfl rfl rfl (fun _ => ?_) (fun _ => ?_))
      all_goals first
        | rfl
        | (exfalso; omega)
    · refine FC_intro hty Tryz.func10 rfl rfl rfl fun w0 => ?_
      repeat' (first | refine WL_callB rfl hv rfl (fun _ => ?_) (fun _ => ?_) | refine WL_call 0 rfl hA rfl rfl rfl ?_ | refine WL_call 0 rfl hB rfl rfl rfl ?_ | refine WL_call 0 rfl hC rfl rfl rfl ?_ | refine WL_call 0 rfl hD rfl rfl rfl ?_ | refine WL_call 0 rfl hw rfl rfl rfl ?_ | refine WL_call 0 rfl hcu rfl rfl rfl ?_ | exact absurd hb ‹_› | exact absurd rfl ‹_› | refine WE_cons (.inl ⟨rfl, stepE_ok hty rfl rfl⟩) ?_ | refine WE_ung rfl rfl ?_ | refine WE_offT rfl rfl rfl ?_ | refine WE_offF rfl rfl rfl ?_ | refine WE_offU rfl rfl rfl ?_ | refine WE_nil ⟨by kernel_rfl, ?_⟩ | refine WL_p hty rfl rfl ?_ | refine WL_nil ?_ | refine AC_seq ?_ | refine AC_region ?_ | refine AC_skip ?_ | refine AC_condT rfl ?_ | refine AC_condF rfl ?_ | refine AC_ret ?_ | refine WL_ung rfl rfl ?_ | refine WL_offT rfl rfl rfl ?_ | refine WL_offF rfl rfl rfl ?_ | refine WL_offU rfl rfl rfl ?_ | refine ends_bool rfl ?_ | refine WL_cmp rfl rfl rfl rfl (fun _ => ?_) (fun _ => ?_) | refine AC_cond rfl (fun _ => ?_) (fun _ => ?_) | refine WE_cmp rfl rfl rfl rfl (fun _ => ?_) (fun _ => ?_))
      all_goals first
        | rfl
        | (exfalso; have e := l2 rfl; omega)
  · refine FC_intro hty Tryz.func10 rfl rfl rfl fun w0 => ?_
    repeat' (first | refine WL_callB rfl hv rfl (fun _ => ?_) (fun _ => ?_) | refine WL_call 0 rfl hA rfl rfl rfl ?_ | refine WL_call 0 rfl hB rfl rfl rfl ?_ | refine WL_call 0 rfl hC rfl rfl rfl ?_ | refine WL_call 0 rfl hD rfl rfl rfl ?_ | refine WL_call 0 rfl hw rfl rfl rfl ?_ | refine WL_call 0 rfl hcu rfl rfl rfl ?_ | exact absurd ha ‹_› | refine WE_cons (.inl ⟨rfl, stepE_ok hty rfl rfl⟩) ?_ | refine WE_ung rfl rfl ?_ | refine WE_offT rfl rfl rfl ?_ | refine WE_offF rfl rfl rfl ?_ | refine WE_offU rfl rfl rfl ?_ | refine WE_nil ⟨by kernel_rfl, ?_⟩ | refine WL_p hty rfl rfl ?_ | refine WL_nil ?_ | refine AC_seq ?_ | refine AC_region ?_ | refine AC_skip ?_ | refine AC_condT rfl ?_ | refine AC_condF rfl ?_ | refine AC_ret ?_ | refine WL_ung rfl rfl ?_ | refine WL_offT rfl rfl rfl ?_ | refine WL_offF rfl rfl rfl ?_ | refine WL_offU rfl rfl rfl ?_ | refine ends_bool rfl ?_ | refine WL_cmp rfl rfl rfl rfl (fun _ => ?_) (fun _ => ?_) | refine AC_cond rfl (fun _ => ?_) (fun _ => ?_) | refine WE_cmp rfl rfl rfl rfl (fun _ => ?_) (fun _ => ?_))
    all_goals first
      | rfl
      | (exfalso; have e := l1 ha; omega)
end Go.Proofs.YtoknnfhgoikpiaaGreat
