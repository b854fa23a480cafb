/-
  What is told is normal; run by its places the term is that; by more fuel it is the same, by one less it is not told.
-/
import Derived.Test.YtoknnfhgoikpiaaGreatGN
import Derived.Test.YtoknnfhgoikpiaaGreatGJ
import Derived.Test.YtoknnfhgoikpiaaGreatGH
namespace Go.Proofs.YtoknnfhgoikpiaaGreat
set_option linter.unusedSimpArgs false
set_option linter.unusedVariables false
open Go.Aw Go.RowKit
attribute [local irreducible] WL AC WD WE MStep OkOp
attribute [local irreducible] isFnT intK

theorem kterm_zz (f : Bool) : FC Tryz.prog 25 [aT zT, .agg [.int .i64 0, .int .i64 0, .lst 3 [] f]] (.bool true) := by
  refine (kterm_same zT (by decide)).args (.cons (.refl _) (.cons (.agg ?_) .nil))
  cases f
  · repeat' (first | exact Wks.nil | refine Wks.cons (Wk.refl _) ?_ | refine Wks.cons (Wk.full _ _ _) ?_ | refine Wks.cons (Wk.nilF _ _ _) ?_)
  · repeat' (first | exact Wks.nil | refine Wks.cons (Wk.refl _) ?_ | refine Wks.cons (Wk.full _ _ _) ?_ | refine Wks.cons (Wk.nilF _ _ _) ?_)

set_option maxHeartbeats 16000000 in
theorem normRuns_spec (env : List En) (t : Tm) (fuel more : Int) (h : sizesE env + t.size ≤ 1048576) : FC Tryz.prog 14 [sE env, aT t, .int .i64 fuel, .int .i64 more] (.bool true) := by
  have he := heavyE_spec env (by omega)
  have hv := heavy1_spec t (by omega)
  have hw := wakes16_spec
  have hlk := lk_env env (by omega)
  have f1 := fuel_spec fuel
  have f2 := fuel_spec more
  obtain ⟨b1, b2⟩ := fuelI_ok fuel
  obtain ⟨b3, b4⟩ := fuelI_ok more
  generalize fuelI fuel = F at f1 b1 b2
  generalize fuelI more = M at f2 b3 b4
  have hA := norm_spec hlk t F (by omega)
  by_cases e0 : (normR (envI env) (lookR env) t F).2.2 = 0
  · obtain ⟨hck, hct, hch, hpf⟩ := normR_ok e0 b1 (by omega)
    have hR : normR (envI env) (lookR env) t F = ((normR (envI env) (lookR env) t F).1, (normR (envI env) (lookR env) t F).2.1, 0) := by rw [← e0]
    rw [hR] at hA
    rw [hck] at hlk
    generalize (normR (envI env) (lookR env) t F).1 = a at hA hch
    generalize (normR (envI env) (lookR env) t F).2.1 = p at hA hch hpf
    clear hR e0
    obtain ⟨hca, hpp⟩ := chain_check hch hct
    obtain ⟨c1, _, _⟩ := checkT_ok hca
    have hen := chain_end hch
    have hpl := rsP_length p
    have hB := nrun_spec hlk t p (by omega) (fun x hx => by have := hpp x hx; omega)
    rw [show nrunR 0 (lookR env) t p = (a, 0) by unfold nrunR followR; rw [if_neg (by omega), if_neg (by omega), if_neg (by omega)]; exact chain_follow hch] at hB
    have w1 : IntKind.i64.wrap ((rsP p).length + M) = (p.length : Int) + M := by rw [hpl]; exact wrap_ok (by omega) (by omega)
    have hC := norm_spec hlk t (IntKind.i64.wrap ((rsP p).length + M)) (by omega)
    rw [show normR 0 (lookR env) t (IntKind.i64.wrap ((rsP p).length + M)) = (a, p, 0) by
      rw [w1, normR_is hct (by omega) (by omega)]
      have := (chain_go hch ((p.length : Int) + M).toNat []).1 (by omega)
      rw [this]; rfl] at hC
    have hD := norm_spec hlk a 0 (by omega)
    rw [show normR 0 (lookR env) a 0 = (a, [], 0) by rw [normR_is hca (by omega) (by omega)]; simp only [Int.toNat_zero, goN, hen]] at hD
    have hN := normal_spec hlk a (by omega)
    rw [show normalR 0 (lookR env) a = true by unfold normalR; rw [hca, hen]; rfl] at hN
    have hE : (rsP p).length ≠ 0 → FC Tryz.prog 59 [sE env, aT t, .int .i64 (IntKind.i64.wrap ((rsP p).length - 1 : Int))] (goV (zT, [], 7)) := by
      intro hne
      have w2 : IntKind.i64.wrap ((rsP p).length - 1 : Int) = (p.length : Int) - 1 := by rw [hpl]; exact wrap_ok (by omega) (by omega)
      have := norm_spec hlk t (IntKind.i64.wrap ((rsP p).length - 1 : Int)) (by omega)
      rw [show normR 0 (lookR env) t (IntKind.i64.wrap ((rsP p).length - 1 : Int)) = (zT, [], 7) by
        rw [w2, normR_is hct (by omega) (by omega)]
        exact (chain_go hch ((p.length : Int) - 1).toNat []).2 (by omega)] at this
      exact this
    have ka := kterm_same a (by omega)
    have kp := ktrace_same p (by omega) (fun x hx => by have := hpp x hx; omega)
    have kt : (rsP p).length = 0 → FC Tryz.prog 25 [aT a, aT t] (.bool true) := by
      intro hz
      have : p = [] := List.length_eq_zero_iff.1 (by omega)
      subst this
      rw [hch.1]; exact ka
    clear hch hpp
    dsimp only [goV] at hA hC hD hE
    refine FC_intro hty Tryz.func14 rfl rfl rfl fun w0 => ?_
    repeat' (first | exact absurd rfl ‹_› | (refine AC_rgA (id := 4) ?_; refine AC_less (less_sub (l := [(0, _), (2, _), (3, _), (5, _)]) (bl := [(5, _)]) ⟨⟨_, rfl, .inl ⟨.refl _, rfl⟩⟩, ⟨_, rfl, .inl ⟨.refl _, rfl⟩⟩, ⟨_, rfl, .inl ⟨.refl _, rfl⟩⟩, ⟨_, rfl, .inl ⟨.refl _, rfl⟩⟩, trivial⟩ ⟨⟨⟨_, rfl, .refl _⟩, rfl⟩, trivial⟩) ?_; refine AC_region ?_) | (refine AC_rgA (id := 8) ?_; refine AC_less (less_sub (l := [(0, _), (2, _), (3, _), (5, _), (9, _), (10, _), (12, _)]) (bl := [(5, _), (9, _), (10, _)]) ⟨⟨_, rfl, .inl ⟨.refl _, rfl⟩⟩, ⟨_, rfl, .inl ⟨.refl _, rfl⟩⟩, ⟨_, rfl, .inl ⟨.refl _, rfl⟩⟩, ⟨_, rfl, .inl ⟨.refl _, rfl⟩⟩, ⟨_, rfl, .inl ⟨.refl _, rfl⟩⟩, ⟨_, rfl, .inl ⟨.refl _, rfl⟩⟩, ⟨_, rfl, .inl ⟨.refl _, rfl⟩⟩, trivial⟩ ⟨⟨⟨_, rfl, .refl _⟩, rfl⟩, ⟨⟨_, rfl, .refl _⟩, rfl⟩, ⟨⟨_, rfl, .refl _⟩, rfl⟩, trivial⟩) ?_; refine AC_region ?_) | (refine AC_rgA (id := 10) ?_; refine AC_less (less_sub (l := [(0, _), (2, _), (3, _), (5, _), (9, _), (10, _), (12, _), (13, _), (14, _), (15, _), (16, _), (17, _)]) (bl := [(5, _), (9, _), (10, _), (13, _), (15, _), (16, _)]) ⟨⟨_, rfl, .inl ⟨.refl _, rfl⟩⟩, ⟨_, rfl, .inl ⟨.refl _, rfl⟩⟩, ⟨_, rfl, .inl ⟨.refl _, rfl⟩⟩, ⟨_, rfl, .inl ⟨.refl _, rfl⟩⟩, ⟨_, rfl, .inl ⟨.refl _, rfl⟩⟩, ⟨_, rfl, .inl ⟨.refl _, rfl⟩⟩, ⟨_, rfl, .inl ⟨.refl _, rfl⟩⟩, ⟨_, rfl, .inl ⟨.refl _, rfl⟩⟩, ⟨_, rfl, .inl ⟨.refl _, rfl⟩⟩, ⟨_, rfl, .inl ⟨.refl _, rfl⟩⟩, ⟨_, rfl, .inl ⟨.refl _, rfl⟩⟩, ⟨_, rfl, .inl ⟨.refl _, rfl⟩⟩, trivial⟩ ⟨⟨⟨_, rfl, .refl _⟩, rfl⟩, ⟨⟨_, rfl, .refl _⟩, rfl⟩, ⟨⟨_, rfl, .refl _⟩, rfl⟩, ⟨⟨_, rfl, .refl _⟩, rfl⟩, ⟨⟨_, rfl, .refl _⟩, rfl⟩, ⟨⟨_, rfl, .refl _⟩, rfl⟩, trivial⟩) ?_; refine AC_region ?_) | (refine AC_rgA (id := 11) ?_; refine AC_less (less_sub (l := [(0, _), (2, _), (5, _), (9, _), (10, _), (12, _), (13, _), (14, _), (15, _), (16, _), (17, _), (18, _), (19, _), (20, _)]) (bl := [(5, _), (9, _), (10, _), (13, _), (15, _), (16, _), (18, _), (19, _)]) ⟨⟨_, rfl, .inl ⟨.refl _, rfl⟩⟩, ⟨_, rfl, .inl ⟨.refl _, rfl⟩⟩, ⟨_, rfl, .inl ⟨.refl _, rfl⟩⟩, ⟨_, rfl, .inl ⟨.refl _, rfl⟩⟩, ⟨_, rfl, .inl ⟨.refl _, rfl⟩⟩, ⟨_, rfl, .inl ⟨.refl _, rfl⟩⟩, ⟨_, rfl, .inl ⟨.refl _, rfl⟩⟩, ⟨_, rfl, .inl ⟨.refl _, rfl⟩⟩, ⟨_, rfl, .inl ⟨.refl _, rfl⟩⟩, ⟨_, rfl, .inl ⟨.refl _, rfl⟩⟩, ⟨_, rfl, .inl ⟨.refl _, rfl⟩⟩, ⟨_, rfl, .inl ⟨.refl _, rfl⟩⟩, ⟨_, rfl, .inl ⟨.refl _, rfl⟩⟩, ⟨_, rfl, .inl ⟨.refl _, rfl⟩⟩, trivial⟩ ⟨⟨⟨_, rfl, .refl _⟩, rfl⟩, ⟨⟨_, rfl, .refl _⟩, rfl⟩, ⟨⟨_, rfl, .refl _⟩, rfl⟩, ⟨⟨_, rfl, .refl _⟩, rfl⟩, ⟨⟨_, rfl, .refl _⟩, rfl⟩, ⟨⟨_, rfl, .refl _⟩, rfl⟩, ⟨⟨_, rfl, .refl _⟩, rfl⟩, ⟨⟨_, rfl, .refl _⟩, rfl⟩, trivial⟩) ?_; refine AC_region ?_) | (refine AC_rgA (id := 13) ?_; refine AC_less (less_sub (l := [(0, _), (5, _), (9, _), (12, _)]) (bl := [(5, _), (9, _)]) ⟨⟨_, rfl, .inl ⟨.refl _, rfl⟩⟩, ⟨_, rfl, .inl ⟨.refl _, rfl⟩⟩, ⟨_, rfl, .inl ⟨.refl _, rfl⟩⟩, ⟨_, rfl, .inl ⟨.refl _, rfl⟩⟩, trivial⟩ ⟨⟨⟨_, rfl, .refl _⟩, rfl⟩, ⟨⟨_, rfl, .refl _⟩, rfl⟩, trivial⟩) ?_; refine AC_region ?_) | refine WL_callB rfl he rfl (fun _ => ?_) (fun _ => ?_) | refine WL_callB rfl hv rfl (fun _ => ?_) (fun _ => ?_) | refine WL_call 0 rfl f1 rfl rfl rfl ?_ | refine WL_call 0 rfl f2 rfl rfl rfl ?_ | refine WL_call 0 rfl hA rfl rfl rfl ?_ | refine WL_call 0 rfl hB rfl rfl rfl ?_ | refine WL_call 0 rfl hC rfl rfl rfl ?_ | refine WL_call 0 rfl hD rfl rfl rfl ?_ | refine WL_call 0 rfl hN rfl rfl rfl ?_ | refine WL_call 0 rfl ka rfl rfl rfl ?_ | refine WL_call 0 rfl kp rfl rfl rfl ?_ | refine WL_call 0 rfl (kt (by omega)) rfl rfl rfl ?_ | refine WL_call 0 rfl (hE (by omega)) rfl rfl rfl ?_ | refine WL_call 0 rfl hw rfl rfl rfl ?_ | refine WL_p hty rfl rfl ?_ | refine WL_nil ?_ | refine AC_seq ?_ | refine AC_region ?_ | refine AC_skip ?_ | refine AC_condT rfl ?_ | refine AC_condF rfl ?_ | refine AC_ret ?_ | refine WL_ung rfl rfl ?_ | refine WL_offT rfl rfl rfl ?_ | refine WL_offF rfl rfl rfl ?_ | refine WL_offU rfl rfl rfl ?_ | refine ends_bool rfl ?_ | refine WL_cmp rfl rfl rfl rfl (fun _ => ?_) (fun _ => ?_) | refine AC_cond rfl (fun _ => ?_) (fun _ => ?_))
    all_goals first
      | rfl
      | (exfalso; omega)
  · obtain ⟨z1, z2⟩ := normR_bad e0
    have hR : normR (envI env) (lookR env) t F = (zT, [], (normR (envI env) (lookR env) t F).2.2) := by
      generalize normR (envI env) (lookR env) t F = r at z1 z2 ⊢
      obtain ⟨x, y, z⟩ := r
      simp only at z1 z2
      rw [z1, z2]
    rw [hR] at hA
    generalize (normR (envI env) (lookR env) t F).2.2 = e at hA e0
    have kz := kterm_zz true
    dsimp only [goV] at hA
    refine FC_intro hty Tryz.func14 rfl rfl rfl fun w0 => ?_
    repeat' (first | exact absurd rfl ‹_› | exact absurd (by assumption) e0 | exact absurd e0 (by assumption) | refine WL_callB rfl he rfl (fun _ => ?_) (fun _ => ?_) | refine WL_callB rfl hv rfl (fun _ => ?_) (fun _ => ?_) | refine WL_call 0 rfl f1 rfl rfl rfl ?_ | refine WL_call 0 rfl f2 rfl rfl rfl ?_ | refine WL_call 0 rfl hA rfl rfl rfl ?_ | refine WL_call 0 rfl kz rfl rfl rfl ?_ | refine WL_call 0 rfl hw rfl rfl rfl ?_ | refine WL_p hty rfl rfl ?_ | refine WL_nil ?_ | refine AC_seq ?_ | refine AC_region ?_ | refine AC_skip ?_ | refine AC_condT rfl ?_ | refine AC_condF rfl ?_ | refine AC_ret ?_ | refine WL_ung rfl rfl ?_ | refine WL_offT rfl rfl rfl ?_ | refine WL_offF rfl rfl rfl ?_ | refine WL_offU rfl rfl rfl ?_ | refine ends_bool rfl ?_ | refine WL_cmp rfl rfl rfl rfl (fun _ => ?_) (fun _ => ?_) | refine AC_cond rfl (fun _ => ?_) (fun _ => ?_))
    all_goals rfl
end Go.Proofs.YtoknnfhgoikpiaaGreat
