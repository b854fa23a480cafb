/-
  What is done in a part is done in the whole.
-/
import Derived.Test.YtoknnfhgoikpiaaGreatLPartsL
import Derived.Test.YtoknnfhgoikpiaaGreatGJ
import Derived.Test.YtoknnfhgoikpiaaGreatLAts
import Derived.Test.YtoknnfhgoikpiaaGreatGH
namespace Go.Proofs.YtoknnfhgoikpiaaGreat
set_option linter.unusedSimpArgs false
set_option linter.unusedVariables false
open Go.Aw Go.RowKit
def tbParts7_7 : List (Nat × List Nat) := [(0, []), (1, []), (2, []), (3, []), (4, [2, 3]), (5, []), (6, [2, 3, 4, 5]), (7, [0, 1, 2, 3, 4, 5, 6]), (8, [0, 1, 2, 3, 4, 5, 6, 7]), (9, [0, 1, 2, 3, 4, 5, 6, 7, 8]), (10, [0, 1, 2, 3, 4, 5, 6, 7, 8]), (11, []), (12, [0, 1, 2, 3, 4, 5, 6, 7, 8, 9, 11]), (13, [0, 1, 2, 3, 4, 5, 6, 7, 8, 9, 10, 11, 12])]
attribute [local irreducible] WL AC WD WE MStep OkOp

theorem doR_size {chk : Int} {lk : Tm → Option (Tm × Int)} {t : Tm} {p : List Int} : (doR chk lk t p).1.size ≤ 6000 := by
  have hz : zT.size = 1 := rfl
  unfold doR
  split
  · simp only; omega
  · split
    · simp only; omega
    · split
      · simp only; omega
      · exact makeR_size _ _ _

set_option maxHeartbeats 16000000 in
theorem stepParts_spec (env : List En) (t u : Tm) (p q : List Int) (h : sizesE env + t.size + u.size + p.length + q.length ≤ 1048576) : FC Tryz.prog 7 [sE env, aT t, aT u, sI p, sI q] (.bool true) := by
  have hp1 := t.size_pos
  have he := heavyE_spec env (by omega)
  have hv := heavyP t u (by omega)
  have hw := wakes15_spec
  have hlk := lk_env env (by omega)
  have hpl : (rsI p).length = p.length := rsI_length _
  have hql : (rsI q).length = q.length := rsI_length _
  have hW := put_spec t p u (by omega) (by omega) (by omega)
  have zW := putR_size (t := t) (u := u) (p := p)
  have hX := do_spec hlk u q (by omega) (by omega)
  have zX := doR_size (chk := envI env) (lk := lookR env) (t := u) (p := q)
  have hY := do_spec hlk (putR t p u).1 (p ++ q) (by omega) (by rw [List.length_append]; omega)
  have zY := doR_size (chk := envI env) (lk := lookR env) (t := (putR t p u).1) (p := p ++ q)
  have hZ := put_spec (putR t p u).1 p (doR (envI env) (lookR env) u q).1 (by omega) (by omega) (by omega)
  have kYZ := kterm_spec (doR (envI env) (lookR env) (putR t p u).1 (p ++ q)).1 (putR (putR t p u).1 p (doR (envI env) (lookR env) u q).1).1 (by omega)
  have l0 := fun e => parts (chk := envI env) (lk := lookR env) (t := t) (u := u) (p := p) (q := q) e
  have hall : (sI (p ++ q) : AV) = .lst 1 (rsI p ++ rsI q) false := by show AV.lst 1 (rsI (p ++ q)) false = _; rw [rsI_append]
  rw [hall] at hY
  have l1 : (putR t p u).2 = 0 → (doR (envI env) (lookR env) u q).2 ≠ 0 → (doR (envI env) (lookR env) (putR t p u).1 (p ++ q)).2 = (doR (envI env) (lookR env) u q).2 ∨ (doR (envI env) (lookR env) (putR t p u).1 (p ++ q)).2 ≠ 0 := fun e => (l0 e).1
  have l2 : (putR t p u).2 = 0 → (doR (envI env) (lookR env) u q).2 = 0 → (doR (envI env) (lookR env) (putR t p u).1 (p ++ q)).2 = (putR (putR t p u).1 p (doR (envI env) (lookR env) u q).1).2 ∧
      decide ((doR (envI env) (lookR env) (putR t p u).1 (p ++ q)).1 = (putR (putR t p u).1 p (doR (envI env) (lookR env) u q).1).1) = true := fun e1 e2 => by
    rw [(l0 e1).2 e2]; exact ⟨rfl, decide_eq_true rfl⟩
  clear l0
  generalize putR (putR t p u).1 p (doR (envI env) (lookR env) u q).1 = Z at hZ kYZ l2
  generalize doR (envI env) (lookR env) (putR t p u).1 (p ++ q) = Y at hY kYZ zY l1 l2
  generalize doR (envI env) (lookR env) u q = X at hX hZ zX l1 l2
  generalize putR t p u = W at hW hY hZ zW l1 l2
  generalize decide (Y.1 = Z.1) = bYZ at kYZ l2
  have hYt := hY.args (xs := [.lst 12 (rsE env) false, aT W.1, .lst 1 (rsI p ++ rsI q) true]) (.cons (.refl _) (.cons (.refl _) (.cons (.full _ _ _) .nil)))
  show FC Tryz.prog 7 [.lst 12 (rsE env) false, aT t, aT u, .lst 1 (rsI p) false, .lst 1 (rsI q) false] _
  dsimp only [sI, sE] at he hW hX hY hZ
  generalize rsE env = re at *
  generalize rsI p = rp at *
  generalize rsI q = rq at *
  have hYn : rq = [] → FC Tryz.prog 43 [.lst 12 re false, aT W.1, .lst 1 rp false] (.tup [aT Y.1, .int .i64 Y.2]) := fun e => by rw [e, List.append_nil] at hY; exact hY
  refine FC_intro hty Tryz.func7 rfl rfl rfl fun w0 => ?_
  repeat' (first | refine WL_callB rfl he rfl (fun _ => ?_) (fun _ => ?_) | refine WL_callB rfl hv rfl (fun _ => ?_) (fun _ => ?_) | refine WL_call 0 rfl hW rfl rfl rfl ?_ | refine WL_call 0 rfl hX rfl rfl rfl ?_ | refine WL_call 0 rfl hw rfl rfl rfl ?_ | refine WL_p hty rfl rfl ?_ | refine WL_nil ?_ | refine AC_seq ?_ | refine AC_region ?_ | refine AC_skip ?_ | refine AC_condT rfl ?_ | refine AC_condF rfl ?_ | refine AC_ret ?_ | refine WL_ung rfl rfl ?_ | refine WL_offT rfl rfl rfl ?_ | refine WL_offF rfl rfl rfl ?_ | refine WL_offU rfl rfl rfl ?_ | refine ends_bool rfl ?_ | refine WL_cmp rfl rfl rfl rfl (fun _ => ?_) (fun _ => ?_) | refine AC_cond rfl (fun _ => ?_) (fun _ => ?_))
  any_goals rfl
  refine AC_rgA (id := 7) ?_
  refine AC_less (less_sub (l := [(0, _), (3, _), (4, _), (6, _), (7, _), (11, _), (12, _), (13, _)]) (bl := [(6, _), (7, _), (11, _), (13, _)]) ⟨⟨_, rfl, .inl ⟨.refl _, rfl⟩⟩, ⟨_, rfl, .inl ⟨.refl _, rfl⟩⟩, ⟨_, rfl, .inl ⟨.refl _, rfl⟩⟩, ⟨_, rfl, .inl ⟨.refl _, rfl⟩⟩, ⟨_, rfl, .inl ⟨.refl _, rfl⟩⟩, ⟨_, rfl, .inl ⟨.refl _, rfl⟩⟩, ⟨_, rfl, .inl ⟨.refl _, rfl⟩⟩, ⟨_, rfl, .inl ⟨.refl _, rfl⟩⟩, trivial⟩ ⟨⟨⟨_, rfl, .refl _⟩, rfl⟩, ⟨⟨_, rfl, .refl _⟩, rfl⟩, ⟨⟨_, rfl, .refl _⟩, rfl⟩, ⟨⟨_, rfl, .refl _⟩, rfl⟩, trivial⟩) ?_
  refine AC_drawnE (id := 7) tbParts7_7 rfl (by kernel_rfl) ?_
  cases rp <;> cases rq
  all_goals
    repeat' (first | refine WL_call 0 rfl hZ rfl rfl rfl ?_ | refine WL_call 0 rfl hw rfl rfl rfl ?_ | refine WL_callB rfl kYZ rfl (fun _ => ?_) (fun _ => ?_) | refine WE_m rfl (m_app0 hty rfl rfl rfl rfl rfl rfl rfl) ?_ | refine WE_m rfl (m_appFz (d := some 56) hty 201 rfl rfl rfl rfl rfl rfl rfl (List.cons_ne_nil _ _) (by simp only [List.length_nil, List.length_cons] at *; omega) rfl rfl rfl) ?_ | refine WE_m rfl (m_appFz (d := some 58) hty 202 rfl rfl rfl rfl rfl rfl rfl (List.cons_ne_nil _ _) (by simp only [List.length_nil, List.length_cons] at *; omega) rfl rfl rfl) ?_ | refine WE_m rfl (m_appA (d := some 58) hty 202 rfl rfl rfl rfl rfl rfl rfl rfl (List.cons_ne_nil _ _) (by simp only [List.length_append, List.length_nil, List.length_cons] at *; omega) rfl rfl rfl) ?_ | refine WE_call 0 rfl hY rfl rfl rfl ?_ | refine WE_call 0 rfl hYt rfl rfl rfl ?_ | refine WE_call 0 rfl (hYn rfl) rfl rfl rfl ?_ | refine WE_cons (.inl ⟨rfl, stepE_ok hty rfl rfl⟩) ?_ | refine WE_nil ⟨by kernel_rfl, ?_⟩ | refine WL_p hty rfl rfl ?_ | refine WL_nil ?_ | refine AC_seq ?_ | refine AC_region ?_ | refine AC_skip ?_ | refine AC_condT rfl ?_ | refine AC_condF rfl ?_ | refine AC_ret ?_ | refine WL_ung rfl rfl ?_ | refine WL_offT rfl rfl rfl ?_ | refine WL_offF rfl rfl rfl ?_ | refine WL_offU rfl rfl rfl ?_ | refine ends_bool rfl ?_ | refine WL_cmp rfl rfl rfl rfl (fun _ => ?_) (fun _ => ?_) | refine AC_cond rfl (fun _ => ?_) (fun _ => ?_))
  all_goals first
    | rfl
    | (exfalso; have e := l1 (by omega) (by assumption); omega)
    | (exfalso; obtain ⟨e1, e2⟩ := l2 (by omega) (by omega); first | omega | (simp_all; done))
end Go.Proofs.YtoknnfhgoikpiaaGreat
