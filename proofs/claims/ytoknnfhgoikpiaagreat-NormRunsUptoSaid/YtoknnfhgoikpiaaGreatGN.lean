/-
  Terms made normal: norm.Go.; Terms made normal: norm.Norm, Follow, Run, Normal.; Terms made normal, in plain words.; What the laws on rules make first; that the program wakes.; Constants that the laws make; numbers made small.; Rows of numbers, traces alike to themselves; few enough fuel; the layer's own waking.
-/
import Derived.Test.YtoknnfhgoikpiaaGreatGF
import Derived.Test.YtoknnfhgoikpiaaGreatGB
import Derived.Test.YtoknnfhgoikpiaaGreatGE
import Derived.Test.YtoknnfhgoikpiaaGreatGC

/-
  Terms made normal: norm.Go.
-/
namespace Go.Proofs.YtoknnfhgoikpiaaGreat
set_option linter.unusedSimpArgs false
set_option linter.unusedVariables false
open Go.Aw Go.RowKit
def tbNormA107_8h2_6 : List (Nat × List Nat) := [(0, []), (1, [0]), (2, [100006]), (3, [0, 1]), (4, [0, 1, 2, 3]), (5, [0, 1, 2, 3, 4])]
attribute [local irreducible] WL AC WD WE MStep OkOp

def rsP (l : List (List Int)) : List (List AV) := l.map fun p => [sI p]
abbrev sP (l : List (List Int)) : AV := .lst 1 (rsP l) false
theorem rsP_length (l : List (List Int)) : (rsP l).length = l.length := by rw [rsP, List.length_map]
theorem rsP_snoc (l : List (List Int)) (p : List Int) : rsP (l ++ [p]) = rsP l ++ [[sI p]] := by simp [rsP]
theorem rsP_get {l : List (List Int)} {i : Nat} {p : List Int} (h : l[i]? = some p) : (rsP l)[i]? = some [sI p] := by rw [rsP, List.getElem?_map, h]; rfl

/-- j steps, each at the first place. -/
def runN (lk : Tm → Option (Tm × Int)) (t : Tm) : Nat → Option (Tm × List (List Int))
  | 0 => some (t, [])
  | j + 1 => match runN lk t j with
    | none => none
    | some s => match placeR lk s.1 with
      | none => none
      | some p => if (makeR lk s.1 p).2 = 0 then some ((makeR lk s.1 p).1, s.2 ++ [p]) else none
def goN (lk : Tm → Option (Tm × Int)) : Nat → Tm → List (List Int) → Tm × List (List Int) × Int
  | 0, t, ps => match placeR lk t with
    | none => (t, ps, 0)
    | some _ => (zT, [], 7)
  | n + 1, t, ps => match placeR lk t with
    | none => (t, ps, 0)
    | some p => if (makeR lk t p).2 = 0 then goN lk n (makeR lk t p).1 (ps ++ [p]) else (zT, [], (makeR lk t p).2)
theorem run_go {lk : Tm → Option (Tm × Int)} {t : Tm} {n : Nat} : ∀ {j : Nat} {s : Tm × List (List Int)}, j ≤ n → runN lk t j = some s → goN lk n t [] = goN lk (n - j) s.1 s.2 ∧ s.2.length = j
  | 0, s, _, h => by obtain rfl := Option.some.inj h; exact ⟨rfl, rfl⟩
  | j + 1, s, hj, h => by
    simp only [runN] at h
    split at h
    · cases h
    · rename_i s0 hs0
      split at h
      · cases h
      · rename_i p hp
        split at h
        · rename_i hm
          obtain rfl := Option.some.inj h
          obtain ⟨h1, h2⟩ := run_go (n := n) (by omega) hs0
          refine ⟨?_, by simp [h2]⟩
          rw [h1, show n - j = (n - (j + 1)) + 1 by omega, goN]
          simp only [hp, if_pos hm]
        · cases h
def normM (fuel : Int) : Nat := (min fuel 4096).toNat
def goR (lk : Tm → Option (Tm × Int)) (t : Tm) (fuel : Int) : Tm × List (List Int) × Int := if checkT t ≠ 0 then (zT, [], checkT t) else goN lk (normM fuel) t []
abbrev goV (r : Tm × List (List Int) × Int) : AV := .tup [aT r.1, .agg [sP r.2.1], .int .i64 r.2.2]
theorem run_check {lk : Tm → Option (Tm × Int)} {t : Tm} (ht : checkT t = 0) : ∀ {j : Nat} {s : Tm × List (List Int)}, runN lk t j = some s → checkT s.1 = 0
  | 0, s, h => by obtain rfl := Option.some.inj h; exact ht
  | j + 1, s, h => by
    simp only [runN] at h
    split at h
    · cases h
    · rename_i s0 hs0
      split at h
      · cases h
      · rename_i p hp
        split at h
        · rename_i hm
          obtain rfl := Option.some.inj h
          show checkT (makeR lk s0.1 p).1 = 0
          unfold makeR at hm ⊢
          split at hm
          · cases hm
          · rename_i u hu
            split at hm
            · cases hm
            · rename_i r hr
              simp only [hu, hr] at *
              split at hm
              · rename_i q; exact absurd hm q
              · rename_i q
                rw [if_neg q]
                unfold wholeT at hm ⊢
                split at hm
                · rename_i q2; exact absurd hm q2
                · rename_i q2
                  rw [if_neg q2]
                  exact Classical.not_not.1 q2
        · cases h

theorem gofail_spec (e : Int) : FC Tryz.prog 170 [.int .i64 e] (goV (zT, [], e)) := by
  refine FC_intro hty Tryz.func170 rfl rfl rfl fun w0 => ?_
  repeat' (first | refine WL_p hty rfl rfl ?_ | refine WL_nil ?_ | refine AC_seq ?_ | refine AC_region ?_ | refine AC_skip ?_ | refine AC_ret ?_ | refine ends_bool rfl ?_)
  refine ends_wk rfl rfl (.tup (.cons (.agg ?_) (.cons (.agg ?_) (.cons (.refl _) .nil))))
  · repeat' (first | exact Wks.nil | refine Wks.cons (Wk.refl _) ?_ | refine Wks.cons (Wk.full _ _ _) ?_ | refine Wks.cons (Wk.nilF _ _ _) ?_)
  · repeat' (first | exact Wks.nil | refine Wks.cons (Wk.refl _) ?_ | refine Wks.cons (Wk.full _ _ _) ?_ | refine Wks.cons (Wk.nilF _ _ _) ?_)

set_option maxHeartbeats 8000000 in
theorem go_spec {es : Nat} {rows : List (List AV)} {full : Bool} {lk : Tm → Option (Tm × Int)} (hlk : LK es rows full 0 lk) (t : Tm) (fuel : Int) (ht : t.size ≤ 1048576) (hf : 0 ≤ fuel) :
    FC Tryz.prog 107 [.lst es rows full, aT t, .int .i64 fuel] (goV (goR lk t fuel)) := by
  have hc := tcheck_spec t ht
  by_cases h1 : checkT t = 0
  · obtain ⟨c1, _, c3⟩ := checkT_ok h1
    rw [h1] at hc
    have hg : goR lk t fuel = goN lk (normM fuel) t [] := by unfold goR; rw [if_neg (by omega)]
    have hn : normM fuel ≤ 4096 := by unfold normM; omega
    rw [hg]
    refine FC_intro hty Tryz.func107 rfl rfl rfl fun w0 => ?_
    repeat' (first | exact absurd rfl ‹_› | refine WL_call 0 rfl hc rfl rfl rfl ?_ | refine WL_p hty rfl rfl ?_ | refine WL_nil ?_ | refine AC_seq ?_ | refine AC_region ?_ | refine AC_block ?_ | refine AC_skip ?_ | refine AC_condT rfl ?_ | refine AC_condF rfl ?_ | refine AC_ret ?_ | refine ends_bool rfl ?_ | refine WL_cmp rfl rfl rfl rfl (fun _ => ?_) (fun _ => ?_) | refine AC_cond rfl (fun _ => ?_) (fun _ => ?_))
    refine AC_less (less_gone 111 rfl) ?_
    refine AC_for (normM fuel) (fun j => (runN lk t j).isSome = true) (fun j => ⟨envOf [(0, .lst es rows full), (2, .int .i64 fuel), (4, .ptr 4 0), (6, .ptr 6 0), (7, .ptr 7 0), (9, .fn (.func 170) [] []), (11, .ptr 11 0)],
      bkOf [(4, .box (cT ((runN lk t j).getD (zT, [])).1)), (6, .box [.int .i64 0, .int .i64 0, .lst 3 [] true]), (7, .box [.lst 1 [] true]), (11, .box [grV 111 1 (rsP ((runN lk t j).getD (zT, [])).2)]), (111, grB 64 1 (rsP ((runN lk t j).getD (zT, [])).2))]⟩)
      (less_sub ⟨⟨_, rfl, .inl ⟨.refl _, rfl⟩⟩, ⟨_, rfl, .inl ⟨.refl _, rfl⟩⟩, ⟨_, rfl, .inl ⟨.refl _, rfl⟩⟩, ⟨_, rfl, .inl ⟨.refl _, rfl⟩⟩, ⟨_, rfl, .inl ⟨.refl _, rfl⟩⟩, ⟨_, rfl, .inl ⟨.refl _, rfl⟩⟩, ⟨_, rfl, .inl ⟨.refl _, rfl⟩⟩, trivial⟩ ⟨⟨⟨_, rfl, .refl _⟩, rfl⟩, ⟨⟨_, rfl, .refl _⟩, rfl⟩, ⟨⟨_, rfl, .refl _⟩, rfl⟩, ?_, ⟨⟨_, rfl, .refl _⟩, rfl⟩, trivial⟩) rfl ?_
    · exact ⟨⟨_, rfl, .refl _⟩, by simp only [keepB, List.all_cons, List.all_nil]; rw [keepS_gr] <;> rfl⟩
    intro j hj hI
    obtain ⟨s, hs⟩ := Option.isSome_iff_exists.1 hI
    obtain ⟨hrg, hrl⟩ := run_go hj hs
    have hck := run_check h1 hs
    obtain ⟨d1, _, d3⟩ := checkT_ok hck
    have hpl := rsP_length s.2
    have hfd := sfind_all hlk 6000 (by omega) s.1 d1 d3
    rw [hs, hrg, Option.getD_some]
    have hrn : runN lk t (j + 1) = match placeR lk s.1 with
      | none => none
      | some p => if (makeR lk s.1 p).2 = 0 then some ((makeR lk s.1 p).1, s.2 ++ [p]) else none := by rw [runN, hs]
    cases hp : placeR lk s.1 with
    | none =>
      rw [hp] at hfd
      have hgo : goN lk (normM fuel - j) s.1 s.2 = (s.1, s.2, 0) := by cases normM fuel - j <;> simp only [goN, hp]
      have htw := twin_spec s.1 (by omega)
      rw [hgo]
      rcases hrp : rsP s.2 with _ | ⟨r0, rp⟩
      all_goals
        repeat' (first | refine WL_call 0 rfl hfd rfl rfl rfl ?_ | (refine AC_rgA (id := 8) ?_; refine AC_less (less_sub (l := [(4, _), (6, _), (7, _), (11, _)]) (bl := [(4, _), (6, _), (7, _), (11, _), (111, _)]) ⟨⟨_, rfl, .inl ⟨.refl _, rfl⟩⟩, ⟨_, rfl, .inl ⟨.refl _, rfl⟩⟩, ⟨_, rfl, .inl ⟨.refl _, rfl⟩⟩, ⟨_, rfl, .inl ⟨.refl _, rfl⟩⟩, trivial⟩ ⟨⟨⟨_, rfl, .refl _⟩, rfl⟩, ⟨⟨_, rfl, .refl _⟩, rfl⟩, ⟨⟨_, rfl, .refl _⟩, rfl⟩, ⟨⟨_, rfl, .refl _⟩, rfl⟩, ⟨⟨_, rfl, .refl _⟩, rfl⟩, trivial⟩) ?_; refine AC_drawnE (id := 8) tbNormA107_8h2_6 rfl (by kernel_rfl) ?_) | refine WE_call 0 rfl htw rfl rfl rfl ?_ | refine WE_cons (.inl ⟨rfl, stepE_ok hty rfl rfl⟩) ?_ | refine WE_nil ⟨by kernel_rfl, ?_⟩ | refine WL_p hty rfl rfl ?_ | refine WL_nil ?_ | refine AC_seq ?_ | refine AC_region ?_ | refine AC_block ?_ | refine AC_skip ?_ | refine AC_condT rfl ?_ | refine AC_condF rfl ?_ | refine AC_ret ?_ | refine ends_bool rfl ?_ | refine WL_cmp rfl rfl rfl rfl (fun _ => ?_) (fun _ => ?_) | refine AC_cond rfl (fun _ => ?_) (fun _ => ?_))
      · refine ends_wk rfl rfl (.tup (.cons (.refl _) (.cons (.agg (.cons ?_ .nil)) (.cons (.refl _) .nil))))
        show Wk _ (.lst 1 (rsP s.2) false)
        rw [hrp]
        exact .nilF _ _ _
      · refine ends_less (less_freeze 111 rfl) ?_
        refine ends_wk rfl rfl (.tup (.cons (.refl _) (.cons (.agg (.cons ?_ .nil)) (.cons (.refl _) .nil))))
        show Wk _ (.lst 1 (rsP s.2) false)
        rw [hrp]
        exact .refl _
    | some p =>
      rw [hp] at hfd hrn
      have hplen := placeR_len lk 6000 s.1 p (by omega) hp
      have hmk := smake_spec hlk s.1 p d1 d3 (by omega)
      have hg0 : normM fuel - j = 0 → goN lk (normM fuel - j) s.1 s.2 = (zT, [], 7) := fun e => by rw [e, goN, hp]
      have hg1 : ∀ k, normM fuel - j = k + 1 → (makeR lk s.1 p).2 ≠ 0 → goN lk (normM fuel - j) s.1 s.2 = (zT, [], (makeR lk s.1 p).2) := fun k e e2 => by rw [e, goN, hp]; simp only [if_neg e2]
      have hrn2 : (makeR lk s.1 p).2 = 0 → runN lk t (j + 1) = some ((makeR lk s.1 p).1, s.2 ++ [p]) := fun e => by rw [hrn]; simp only [if_pos e]
      have hsn := rsP_snoc s.2 p
      clear hrn
      generalize makeR lk s.1 p = m at hmk hg1 hrn2
      have hnm : (normM fuel : Int) = min fuel 4096 := by unfold normM; omega
      rcases hrp : rsP s.2 with _ | ⟨r0, rp⟩
      all_goals
        repeat' (first | refine WL_call 0 rfl hfd rfl rfl rfl ?_ | refine WL_call 0 rfl hmk rfl rfl rfl ?_ | refine WL_m rfl (m_min rfl rfl rfl) ?_ | refine WL_m rfl (m_callF 0 rfl rfl rfl (gofail_spec _) rfl rfl rfl) ?_ | refine WL_m rfl (m_appG (id0 := 111) (rows := []) hty 211 rfl rfl rfl rfl rfl rfl rfl (by simp only [List.length_cons, List.length_nil]; omega) rfl rfl rfl) ?_ | refine WL_m rfl (m_appG (id0 := 111) (rows := r0 :: rp) hty 211 rfl rfl rfl rfl rfl rfl rfl (by rw [hrp] at hpl; simp only [List.length_cons, List.length_nil] at *; omega) rfl rfl rfl) ?_ | refine WL_p hty rfl rfl ?_ | refine WL_nil ?_ | refine AC_seq ?_ | refine AC_region ?_ | refine AC_block ?_ | refine AC_skip ?_ | refine AC_condT rfl ?_ | refine AC_condF rfl ?_ | refine AC_ret ?_ | refine ends_bool rfl ?_ | refine WL_cmp rfl rfl rfl rfl (fun _ => ?_) (fun _ => ?_) | refine AC_cond rfl (fun _ => ?_) (fun _ => ?_))
      all_goals (have hrj := hrl; rw [← hpl, hrp] at hrj)
      · rename_i hq
        rw [hg0 (by split at hq <;> omega)]
        exact ends_wk rfl rfl (.refl _)
      · rename_i hq he
        rw [hg1 (normM fuel - j - 1) (by split at hq <;> omega) he]
        exact ends_wk rfl rfl (.refl _)
      · rename_i hq he
        have hr2 := hrn2 (Classical.not_not.1 he)
        have hrr : ([] : List (List AV)) ++ [[sI p]] = rsP (s.2 ++ [p]) := by rw [hsn, hrp]
        rw [hr2, Option.getD_some]
        refine ⟨by split at hq <;> omega, rfl, (less_ren [(111, 211)] rfl ⟨⟨_, rfl, .inl ⟨.refl _, rfl⟩⟩, ⟨_, rfl, .inl ⟨.refl _, rfl⟩⟩, ⟨_, rfl, .inl ⟨.refl _, rfl⟩⟩, ⟨_, rfl, .inl ⟨.refl _, rfl⟩⟩, ⟨_, rfl, .inl ⟨.refl _, rfl⟩⟩, ⟨_, rfl, .inl ⟨.refl _, rfl⟩⟩, ⟨_, rfl, .inl ⟨.refl _, rfl⟩⟩, trivial⟩ ⟨⟨⟨_, rfl, .refl _⟩, rfl⟩, ⟨⟨_, rfl, .refl _⟩, rfl⟩, ⟨⟨_, rfl, .refl _⟩, rfl⟩, ?_, ⟨⟨_, rfl, wkB_gr ?_⟩, keepB_gr⟩, trivial⟩)⟩
        · exact ⟨⟨_, rfl, .box (.cons (wk_grS rfl hrr) .nil)⟩, by simp only [keepB, List.all_cons, List.all_nil]; rw [keepS_gr] <;> rfl⟩
        · exact hrr
      · rename_i hq
        rw [hg0 (by split at hq <;> omega)]
        exact ends_wk rfl rfl (.refl _)
      · rename_i hq he
        rw [hg1 (normM fuel - j - 1) (by split at hq <;> omega) he]
        exact ends_wk rfl rfl (.refl _)
      · rename_i hq he
        have hr2 := hrn2 (Classical.not_not.1 he)
        have hrr : r0 :: rp ++ [[sI p]] = rsP (s.2 ++ [p]) := by rw [hsn, hrp]
        rw [hr2, Option.getD_some]
        refine ⟨by split at hq <;> omega, rfl, (less_ren [(111, 211)] rfl ⟨⟨_, rfl, .inl ⟨.refl _, rfl⟩⟩, ⟨_, rfl, .inl ⟨.refl _, rfl⟩⟩, ⟨_, rfl, .inl ⟨.refl _, rfl⟩⟩, ⟨_, rfl, .inl ⟨.refl _, rfl⟩⟩, ⟨_, rfl, .inl ⟨.refl _, rfl⟩⟩, ⟨_, rfl, .inl ⟨.refl _, rfl⟩⟩, ⟨_, rfl, .inl ⟨.refl _, rfl⟩⟩, trivial⟩ ⟨⟨⟨_, rfl, .refl _⟩, rfl⟩, ⟨⟨_, rfl, .refl _⟩, rfl⟩, ⟨⟨_, rfl, .refl _⟩, rfl⟩, ?_, ⟨⟨_, rfl, wkB_gr ?_⟩, keepB_gr⟩, trivial⟩)⟩
        · exact ⟨⟨_, rfl, .box (.cons (wk_grS rfl hrr) .nil)⟩, by simp only [keepB, List.all_cons, List.all_nil]; rw [keepS_gr] <;> rfl⟩
        · exact hrr
  · have hg : goR lk t fuel = (zT, [], checkT t) := by unfold goR; rw [if_pos h1]
    rw [hg]
    refine FC_intro hty Tryz.func107 rfl rfl rfl fun w0 => ?_
    repeat' (first | exact absurd h1 ‹_› | refine WL_call 0 rfl hc rfl rfl rfl ?_ | refine WL_m rfl (m_callF 0 rfl rfl rfl (gofail_spec _) rfl rfl rfl) ?_ | refine WL_p hty rfl rfl ?_ | refine WL_nil ?_ | refine AC_seq ?_ | refine AC_region ?_ | refine AC_block ?_ | refine AC_skip ?_ | refine AC_condT rfl ?_ | refine AC_condF rfl ?_ | refine AC_ret ?_ | refine ends_bool rfl ?_ | refine WL_cmp rfl rfl rfl rfl (fun _ => ?_) (fun _ => ?_) | refine AC_cond rfl (fun _ => ?_) (fun _ => ?_))
    exact ends_wk rfl rfl (.refl _)
end Go.Proofs.YtoknnfhgoikpiaaGreat

/-
  Terms made normal: norm.Norm, Follow, Run, Normal.
-/
namespace Go.Proofs.YtoknnfhgoikpiaaGreat
set_option linter.unusedSimpArgs false
set_option linter.unusedVariables false
open Go.Aw Go.RowKit
attribute [local irreducible] WL AC WD WE MStep OkOp

def normR (chk : Int) (lk : Tm → Option (Tm × Int)) (t : Tm) (fuel : Int) : Tm × List (List Int) × Int :=
  if chk ≠ 0 then (zT, [], chk) else if checkT t ≠ 0 then (zT, [], checkT t) else if fuel < 0 ∨ 65536 < fuel then (zT, [], 1) else goR lk t fuel
theorem goV_zero (e : Int) (f g : Bool) : Wks [.agg [.int .i64 0, .int .i64 0, .lst 3 [] f], .agg [.lst 1 [] g], .int .i64 e] [aT zT, .agg [sP []], .int .i64 e] := by
  refine .cons (.agg ?_) (.cons (.agg ?_) (.cons (.refl _) .nil))
  · cases f
    · repeat' (first | exact Wks.nil | refine Wks.cons (Wk.refl _) ?_ | refine Wks.cons (Wk.full _ _ _) ?_ | refine Wks.cons (Wk.nilF _ _ _) ?_)
    · repeat' (first | exact Wks.nil | refine Wks.cons (Wk.refl _) ?_ | refine Wks.cons (Wk.full _ _ _) ?_ | refine Wks.cons (Wk.nilF _ _ _) ?_)
  · cases g
    · exact .cons (.refl _) .nil
    · repeat' (first | exact Wks.nil | refine Wks.cons (Wk.refl _) ?_ | refine Wks.cons (Wk.full _ _ _) ?_ | refine Wks.cons (Wk.nilF _ _ _) ?_)
set_option maxHeartbeats 4000000 in
theorem norm_spec {es : Nat} {rows : List (List AV)} {full : Bool} {chk : Int} {lk : Tm → Option (Tm × Int)} (hlk : LK es rows full chk lk) (t : Tm) (fuel : Int) (ht : t.size ≤ 1048576) :
    FC Tryz.prog 59 [.lst es rows full, aT t, .int .i64 fuel] (goV (normR chk lk t fuel)) := by
  have hck := hlk.ck
  have hc := tcheck_spec t ht
  by_cases h0 : chk = 0
  · subst h0
    by_cases h1 : checkT t = 0
    · by_cases h2 : fuel < 0 ∨ 65536 < fuel
      · rw [show normR 0 lk t fuel = (zT, [], 1) by unfold normR; rw [if_neg (by omega), if_neg (by omega), if_pos h2]]
        rw [h1] at hc
        refine FC_intro hty Tryz.func59 rfl rfl rfl fun w0 => ?_
        repeat' (first | exact absurd rfl ‹_› | refine WL_call 0 rfl hck rfl rfl rfl ?_ | refine WL_call 0 rfl hc rfl rfl rfl ?_ | (refine AC_rgA (id := 8) ?_; exfalso; omega) | refine WL_p hty rfl rfl ?_ | refine WL_nil ?_ | refine AC_seq ?_ | refine AC_region ?_ | refine AC_block ?_ | refine AC_skip ?_ | refine AC_condT rfl ?_ | refine AC_condF rfl ?_ | refine AC_ret ?_ | refine WL_ung rfl rfl ?_ | refine WL_offT rfl rfl rfl ?_ | refine WL_offF rfl rfl rfl ?_ | refine WL_offU rfl rfl rfl ?_ | refine ends_bool rfl ?_ | refine WL_cmp rfl rfl rfl rfl (fun _ => ?_) (fun _ => ?_) | refine AC_cond rfl (fun _ => ?_) (fun _ => ?_))
        all_goals exact ends_wk rfl rfl (.tup (goV_zero _ _ _))
      · have hg := go_spec hlk t fuel ht (by omega)
        rw [show normR 0 lk t fuel = goR lk t fuel by unfold normR; rw [if_neg (by omega), if_neg (by omega), if_neg h2]]
        rw [h1] at hc
        generalize goR lk t fuel = r at hg ⊢
        refine FC_intro hty Tryz.func59 rfl rfl rfl fun w0 => ?_
        repeat' (first | exact absurd rfl ‹_› | refine WL_call 0 rfl hck rfl rfl rfl ?_ | refine WL_call 0 rfl hc rfl rfl rfl ?_ | (refine AC_rgA (id := 7) ?_; exfalso; omega) | refine WL_call 0 rfl hg rfl rfl rfl ?_ | refine WL_p hty rfl rfl ?_ | refine WL_nil ?_ | refine AC_seq ?_ | refine AC_region ?_ | refine AC_block ?_ | refine AC_skip ?_ | refine AC_condT rfl ?_ | refine AC_condF rfl ?_ | refine AC_ret ?_ | refine WL_ung rfl rfl ?_ | refine WL_offT rfl rfl rfl ?_ | refine WL_offF rfl rfl rfl ?_ | refine WL_offU rfl rfl rfl ?_ | refine ends_bool rfl ?_ | refine WL_cmp rfl rfl rfl rfl (fun _ => ?_) (fun _ => ?_) | refine AC_cond rfl (fun _ => ?_) (fun _ => ?_))
        exact ends_wk rfl rfl (.refl _)
    · rw [show normR 0 lk t fuel = (zT, [], checkT t) by unfold normR; rw [if_neg (by omega), if_pos h1]]
      refine FC_intro hty Tryz.func59 rfl rfl rfl fun w0 => ?_
      repeat' (first | exact absurd rfl ‹_› | exact absurd h1 ‹_› | refine WL_call 0 rfl hck rfl rfl rfl ?_ | refine WL_call 0 rfl hc rfl rfl rfl ?_ | refine WL_p hty rfl rfl ?_ | refine WL_nil ?_ | refine AC_seq ?_ | refine AC_region ?_ | refine AC_block ?_ | refine AC_skip ?_ | refine AC_condT rfl ?_ | refine AC_condF rfl ?_ | refine AC_ret ?_ | refine WL_ung rfl rfl ?_ | refine WL_offT rfl rfl rfl ?_ | refine WL_offF rfl rfl rfl ?_ | refine WL_offU rfl rfl rfl ?_ | refine ends_bool rfl ?_ | refine WL_cmp rfl rfl rfl rfl (fun _ => ?_) (fun _ => ?_) | refine AC_cond rfl (fun _ => ?_) (fun _ => ?_))
      exact ends_wk rfl rfl (.tup (goV_zero _ _ _))
  · rw [show normR chk lk t fuel = (zT, [], chk) by unfold normR; rw [if_pos h0]]
    refine FC_intro hty Tryz.func59 rfl rfl rfl fun w0 => ?_
    repeat' (first | exact absurd (by assumption) h0 | exact absurd h0 ‹_› | refine WL_call 0 rfl hck rfl rfl rfl ?_ | refine WL_p hty rfl rfl ?_ | refine WL_nil ?_ | refine AC_seq ?_ | refine AC_region ?_ | refine AC_block ?_ | refine AC_skip ?_ | refine AC_condT rfl ?_ | refine AC_condF rfl ?_ | refine AC_ret ?_ | refine WL_ung rfl rfl ?_ | refine WL_offT rfl rfl rfl ?_ | refine WL_offF rfl rfl rfl ?_ | refine WL_offU rfl rfl rfl ?_ | refine ends_bool rfl ?_ | refine WL_cmp rfl rfl rfl rfl (fun _ => ?_) (fun _ => ?_) | refine AC_cond rfl (fun _ => ?_) (fun _ => ?_))
    exact ends_wk rfl rfl (.tup (goV_zero _ _ _))

def runF (lk : Tm → Option (Tm × Int)) : Tm → List (List Int) → Option Tm
  | t, [] => some t
  | t, p :: l => if (makeR lk t p).2 = 0 then runF lk (makeR lk t p).1 l else none
def followN (lk : Tm → Option (Tm × Int)) : Tm → List (List Int) → Tm × Int
  | t, [] => (t, 0)
  | t, p :: l => if (makeR lk t p).2 = 0 then followN lk (makeR lk t p).1 l else (zT, (makeR lk t p).2)
theorem runF_append (lk : Tm → Option (Tm × Int)) : ∀ (a b : List (List Int)) (t : Tm), runF lk t (a ++ b) = (runF lk t a).bind fun u => runF lk u b
  | [], b, t => rfl
  | p :: a, b, t => by
    simp only [List.cons_append, runF]
    split
    · exact runF_append lk a b _
    · rfl
theorem followN_append (lk : Tm → Option (Tm × Int)) : ∀ (a b : List (List Int)) (t u : Tm), runF lk t a = some u → followN lk t (a ++ b) = followN lk u b
  | [], b, t, u, h => by obtain rfl := Option.some.inj h; rfl
  | p :: a, b, t, u, h => by
    simp only [runF] at h
    split at h
    · rename_i hm
      simp only [List.cons_append, followN, if_pos hm]
      exact followN_append lk a b _ u h
    · cases h
theorem makeR_check {lk : Tm → Option (Tm × Int)} {t : Tm} {p : List Int} (hm : (makeR lk t p).2 = 0) : checkT (makeR lk t p).1 = 0 := by
  unfold makeR at hm ⊢
  split at hm
  · cases hm
  · rename_i u hu
    split at hm
    · cases hm
    · rename_i r hr
      simp only [hu, hr] at *
      split at hm
      · rename_i q; exact absurd hm q
      · rename_i q
        rw [if_neg q]
        unfold wholeT at hm ⊢
        split at hm
        · rename_i q2; exact absurd hm q2
        · rename_i q2
          rw [if_neg q2]
          exact Classical.not_not.1 q2
theorem runF_check {lk : Tm → Option (Tm × Int)} : ∀ {l : List (List Int)} {t u : Tm}, checkT t = 0 → runF lk t l = some u → checkT u = 0
  | [], t, u, h, hr => by obtain rfl := Option.some.inj hr; exact h
  | p :: l, t, u, h, hr => by
    simp only [runF] at hr
    split at hr
    · rename_i hm; exact runF_check (makeR_check hm) hr
    · cases hr
def followR (lk : Tm → Option (Tm × Int)) (t : Tm) (ps : List (List Int)) : Tm × Int := if checkT t ≠ 0 then (zT, checkT t) else if 4096 < ps.length then (zT, 2) else followN lk t ps

set_option maxHeartbeats 8000000 in
theorem follow_spec {es : Nat} {rows : List (List AV)} {full : Bool} {lk : Tm → Option (Tm × Int)} (hlk : LK es rows full 0 lk) (t : Tm) (ps : List (List Int)) (ht : t.size ≤ 1048576) (hp : ∀ p, p ∈ ps → p.length ≤ 1048576) :
    FC Tryz.prog 109 [.lst es rows full, aT t, .agg [sP ps]] (.tup [aT (followR lk t ps).1, .int .i64 (followR lk t ps).2]) := by
  have hc := tcheck_spec t ht
  have hpl := rsP_length ps
  by_cases h1 : checkT t = 0
  · rw [h1] at hc
    by_cases h2 : 4096 < ps.length
    · rw [show followR lk t ps = (zT, 2) by unfold followR; rw [if_neg (by omega), if_pos h2]]
      refine FC_intro hty Tryz.func109 rfl rfl rfl fun w0 => ?_
      repeat' (first | exact absurd rfl ‹_› | refine WL_call 0 rfl hc rfl rfl rfl ?_ | (refine AC_rgA (id := 6) ?_; exfalso; omega) | refine WL_p hty rfl rfl ?_ | refine WL_nil ?_ | refine AC_seq ?_ | refine AC_region ?_ | refine AC_block ?_ | refine AC_skip ?_ | refine AC_condT rfl ?_ | refine AC_condF rfl ?_ | refine AC_exit ?_ | refine AC_ret ?_ | refine WL_m rfl (m_idxN hty rfl rfl rfl (by assumption) rfl) ?_ | refine ends_bool rfl ?_ | refine WL_cmp rfl rfl rfl rfl (fun _ => ?_) (fun _ => ?_) | refine AC_cond rfl (fun _ => ?_) (fun _ => ?_))
      refine ends_wk rfl rfl (.tup (.cons (.agg ?_) (.cons (.refl _) .nil)))
      repeat' (first | exact Wks.nil | refine Wks.cons (Wk.refl _) ?_ | refine Wks.cons (Wk.full _ _ _) ?_ | refine Wks.cons (Wk.nilF _ _ _) ?_)
    · rw [show followR lk t ps = followN lk t ps by unfold followR; rw [if_neg (by omega), if_neg h2]]
      refine FC_intro hty Tryz.func109 rfl rfl rfl fun w0 => ?_
      repeat' (first | exact absurd rfl ‹_› | refine WL_call 0 rfl hc rfl rfl rfl ?_ | (refine AC_rgA (id := 5) ?_; exfalso; omega) | refine WL_p hty rfl rfl ?_ | refine WL_nil ?_ | refine AC_seq ?_ | refine AC_region ?_ | refine AC_block ?_ | refine AC_skip ?_ | refine AC_condT rfl ?_ | refine AC_condF rfl ?_ | refine AC_exit ?_ | refine AC_ret ?_ | refine WL_m rfl (m_idxN hty rfl rfl rfl (by assumption) rfl) ?_ | refine ends_bool rfl ?_ | refine WL_cmp rfl rfl rfl rfl (fun _ => ?_) (fun _ => ?_) | refine AC_cond rfl (fun _ => ?_) (fun _ => ?_))
      refine AC_for ps.length (fun j => (runF lk t (ps.take j)).isSome = true) (fun j => ⟨envOf [(0, .lst es rows full), (4, .ptr 4 0), (6, .ptr 6 0), (25, sP ps), (26, .int .i64 ((rsP ps).length : Nat)), (27, .int .i64 (j : Nat))],
        bkOf [(4, .box (cT ((runF lk t (ps.take j)).getD zT))), (6, .box [.int .i64 0, .int .i64 0, .lst 3 [] true])]⟩) (less_sub ⟨⟨_, rfl, .inl ⟨.refl _, rfl⟩⟩, ⟨_, rfl, .inl ⟨.refl _, rfl⟩⟩, ⟨_, rfl, .inl ⟨.refl _, rfl⟩⟩, ⟨_, rfl, .inl ⟨.refl _, rfl⟩⟩, ⟨_, rfl, .inl ⟨.refl _, rfl⟩⟩, ⟨_, rfl, .inl ⟨.refl _, rfl⟩⟩, trivial⟩ ⟨⟨⟨_, rfl, .refl _⟩, rfl⟩, ⟨⟨_, rfl, .refl _⟩, rfl⟩, trivial⟩) rfl ?_
      intro j hj hI
      obtain ⟨u, hu⟩ := Option.isSome_iff_exists.1 hI
      have hck := runF_check h1 hu
      obtain ⟨d1, _, d3⟩ := checkT_ok hck
      rw [hu, Option.getD_some]
      repeat' (first | refine WL_p hty rfl rfl ?_ | refine WL_nil ?_ | refine AC_seq ?_ | refine AC_region ?_ | refine AC_block ?_ | refine AC_skip ?_ | refine AC_condT rfl ?_ | refine AC_condF rfl ?_ | refine AC_exit ?_ | refine AC_ret ?_ | refine WL_m rfl (m_idxN hty rfl rfl rfl (by assumption) rfl) ?_ | refine ends_bool rfl ?_)
      refine WL_cmp rfl rfl rfl rfl (fun hq => ?_) (fun hq => ?_)
      · have hlt : j < ps.length := by rw [rsP_length] at hq; omega
        obtain ⟨p, hpg, hpm⟩ := get_of_lt hlt
        have rp := rsP_get hpg
        have hmk := smake_spec hlk u p d1 d3 (hp p hpm)
        have hrn : runF lk t (ps.take (j + 1)) = if (makeR lk u p).2 = 0 then some (makeR lk u p).1 else none := by
          rw [List.take_add_one, hpg, Option.toList_some, runF_append, hu]; rfl
        have hfn : followN lk t ps = if (makeR lk u p).2 = 0 then followN lk (makeR lk u p).1 (ps.drop (j + 1)) else (zT, (makeR lk u p).2) := by
          conv => lhs; rw [← List.take_append_drop j ps]
          rw [followN_append lk _ _ t u hu, List.drop_eq_getElem_cons hlt]
          have : ps[j] = p := by rw [List.getElem?_eq_getElem hlt] at hpg; exact Option.some.inj hpg
          rw [this]; rfl
        generalize makeR lk u p = m at hmk hrn hfn
        repeat' (first | refine WL_call 0 rfl hmk rfl rfl rfl ?_ | refine WL_p hty rfl rfl ?_ | refine WL_nil ?_ | refine AC_seq ?_ | refine AC_region ?_ | refine AC_block ?_ | refine AC_skip ?_ | refine AC_condT rfl ?_ | refine AC_condF rfl ?_ | refine AC_exit ?_ | refine AC_ret ?_ | refine WL_m rfl (m_idxN hty rfl rfl rfl (by assumption) rfl) ?_ | refine ends_bool rfl ?_ | refine WL_cmp rfl rfl rfl rfl (fun _ => ?_) (fun _ => ?_) | refine AC_cond rfl (fun _ => ?_) (fun _ => ?_))
        · rename_i he
          rw [hfn, if_neg he]
          refine ends_wk rfl rfl (.tup (.cons (.agg ?_) (.cons (.refl _) .nil)))
          repeat' (first | exact Wks.nil | refine Wks.cons (Wk.refl _) ?_ | refine Wks.cons (Wk.full _ _ _) ?_ | refine Wks.cons (Wk.nilF _ _ _) ?_)
        · rename_i he
          rw [if_pos (Classical.not_not.1 he)] at hrn
          rw [hrn, Option.getD_some]
          refine ⟨hlt, rfl, (less_sub ⟨⟨_, rfl, .inl ⟨.refl _, rfl⟩⟩, ⟨_, rfl, .inl ⟨.refl _, rfl⟩⟩, ⟨_, rfl, .inl ⟨.refl _, rfl⟩⟩, ⟨_, rfl, .inl ⟨.refl _, rfl⟩⟩, ⟨_, rfl, .inl ⟨.refl _, rfl⟩⟩, ⟨_, rfl, see_eq ?_ rfl⟩, trivial⟩ ⟨⟨⟨_, rfl, .refl _⟩, rfl⟩, ⟨⟨_, rfl, .refl _⟩, rfl⟩, trivial⟩)⟩
          exact congrArg (AV.int .i64) ((wrap_ok (by omega) (by omega)).trans (by omega))
      · obtain rfl : j = ps.length := by rw [rsP_length] at hq; omega
        rw [List.take_length] at hu
        have hfn : followN lk t ps = (u, 0) := by have := followN_append lk ps [] t u hu; rwa [List.append_nil] at this
        have htw := twin_spec u (by omega)
        rw [hfn]
        repeat' (first | refine WL_call 0 rfl htw rfl rfl rfl ?_ | refine WL_p hty rfl rfl ?_ | refine WL_nil ?_ | refine AC_seq ?_ | refine AC_region ?_ | refine AC_block ?_ | refine AC_skip ?_ | refine AC_condT rfl ?_ | refine AC_condF rfl ?_ | refine AC_exit ?_ | refine AC_ret ?_ | refine WL_m rfl (m_idxN hty rfl rfl rfl (by assumption) rfl) ?_ | refine ends_bool rfl ?_ | refine WL_cmp rfl rfl rfl rfl (fun _ => ?_) (fun _ => ?_) | refine AC_cond rfl (fun _ => ?_) (fun _ => ?_))
        exact ends_wk rfl rfl (.refl _)
  · rw [show followR lk t ps = (zT, checkT t) by unfold followR; rw [if_pos h1]]
    refine FC_intro hty Tryz.func109 rfl rfl rfl fun w0 => ?_
    repeat' (first | exact absurd h1 ‹_› | refine WL_call 0 rfl hc rfl rfl rfl ?_ | refine WL_p hty rfl rfl ?_ | refine WL_nil ?_ | refine AC_seq ?_ | refine AC_region ?_ | refine AC_block ?_ | refine AC_skip ?_ | refine AC_condT rfl ?_ | refine AC_condF rfl ?_ | refine AC_exit ?_ | refine AC_ret ?_ | refine WL_m rfl (m_idxN hty rfl rfl rfl (by assumption) rfl) ?_ | refine ends_bool rfl ?_ | refine WL_cmp rfl rfl rfl rfl (fun _ => ?_) (fun _ => ?_) | refine AC_cond rfl (fun _ => ?_) (fun _ => ?_))
    refine ends_wk rfl rfl (.tup (.cons (.agg ?_) (.cons (.refl _) .nil)))
    repeat' (first | exact Wks.nil | refine Wks.cons (Wk.refl _) ?_ | refine Wks.cons (Wk.full _ _ _) ?_ | refine Wks.cons (Wk.nilF _ _ _) ?_)

def nrunR (chk : Int) (lk : Tm → Option (Tm × Int)) (t : Tm) (ps : List (List Int)) : Tm × Int := if chk ≠ 0 then (zT, chk) else followR lk t ps
theorem nrun_spec {es : Nat} {rows : List (List AV)} {full : Bool} {chk : Int} {lk : Tm → Option (Tm × Int)} (hlk : LK es rows full chk lk) (t : Tm) (ps : List (List Int)) (ht : t.size ≤ 1048576) (hp : ∀ p, p ∈ ps → p.length ≤ 1048576) :
    FC Tryz.prog 61 [.lst es rows full, aT t, .agg [sP ps]] (.tup [aT (nrunR chk lk t ps).1, .int .i64 (nrunR chk lk t ps).2]) := by
  have hck := hlk.ck
  by_cases h0 : chk = 0
  · subst h0
    have hf := follow_spec hlk t ps ht hp
    rw [show nrunR 0 lk t ps = followR lk t ps by unfold nrunR; rw [if_neg (by omega)]]
    generalize followR lk t ps = r at hf ⊢
    refine FC_intro hty Tryz.func61 rfl rfl rfl fun w0 => ?_
    repeat' (first | exact absurd rfl ‹_› | refine WL_call 0 rfl hck rfl rfl rfl ?_ | refine WL_call 0 rfl hf rfl rfl rfl ?_ | refine WL_p hty rfl rfl ?_ | refine WL_nil ?_ | refine AC_seq ?_ | refine AC_region ?_ | refine AC_skip ?_ | refine AC_condT rfl ?_ | refine AC_condF rfl ?_ | refine AC_ret ?_ | refine ends_bool rfl ?_ | refine WL_cmp rfl rfl rfl rfl (fun _ => ?_) (fun _ => ?_) | refine AC_cond rfl (fun _ => ?_) (fun _ => ?_))
    exact ends_wk rfl rfl (.refl _)
  · rw [show nrunR chk lk t ps = (zT, chk) by unfold nrunR; rw [if_pos h0]]
    refine FC_intro hty Tryz.func61 rfl rfl rfl fun w0 => ?_
    repeat' (first | exact absurd h0 ‹_› | refine WL_call 0 rfl hck rfl rfl rfl ?_ | refine WL_p hty rfl rfl ?_ | refine WL_nil ?_ | refine AC_seq ?_ | refine AC_region ?_ | refine AC_skip ?_ | refine AC_condT rfl ?_ | refine AC_condF rfl ?_ | refine AC_ret ?_ | refine ends_bool rfl ?_ | refine WL_cmp rfl rfl rfl rfl (fun _ => ?_) (fun _ => ?_) | refine AC_cond rfl (fun _ => ?_) (fun _ => ?_))
    refine ends_wk rfl rfl (.tup (.cons (.agg ?_) (.cons (.refl _) .nil)))
    repeat' (first | exact Wks.nil | refine Wks.cons (Wk.refl _) ?_ | refine Wks.cons (Wk.full _ _ _) ?_ | refine Wks.cons (Wk.nilF _ _ _) ?_)

def normalR (chk : Int) (lk : Tm → Option (Tm × Int)) (t : Tm) : Bool := decide (chk = 0) && (decide (checkT t = 0) && (placeR lk t).isNone)
theorem normal_spec {es : Nat} {rows : List (List AV)} {full : Bool} {chk : Int} {lk : Tm → Option (Tm × Int)} (hlk : LK es rows full chk lk) (t : Tm) (ht : t.size ≤ 1048576) :
    FC Tryz.prog 65 [.lst es rows full, aT t] (.bool (normalR chk lk t)) := by
  have hck := hlk.ck
  have hc := tcheck_spec t ht
  unfold normalR
  by_cases h0 : chk = 0
  · subst h0
    by_cases h1 : checkT t = 0
    · obtain ⟨c1, _, c3⟩ := checkT_ok h1
      have hf := sfind_all hlk 6000 (by omega) t c1 c3
      rw [h1] at hc ⊢
      cases hp : placeR lk t with
      | none =>
        rw [hp] at hf
        refine FC_intro hty Tryz.func65 rfl rfl rfl fun w0 => ?_
        repeat' (first | exact absurd rfl ‹_› | refine WL_call 0 rfl hck rfl rfl rfl ?_ | refine WL_call 0 rfl hc rfl rfl rfl ?_ | refine WL_call 0 rfl hf rfl rfl rfl ?_ | refine WL_p hty rfl rfl ?_ | refine WL_nil ?_ | refine AC_seq ?_ | refine AC_region ?_ | refine AC_skip ?_ | refine AC_condT rfl ?_ | refine AC_condF rfl ?_ | refine AC_ret ?_ | refine WL_ung rfl rfl ?_ | refine WL_offT rfl rfl rfl ?_ | refine WL_offF rfl rfl rfl ?_ | refine WL_offU rfl rfl rfl ?_ | refine ends_bool rfl ?_ | refine WL_cmp rfl rfl rfl rfl (fun _ => ?_) (fun _ => ?_) | refine AC_cond rfl (fun _ => ?_) (fun _ => ?_))
        rfl
      | some p =>
        rw [hp] at hf
        refine FC_intro hty Tryz.func65 rfl rfl rfl fun w0 => ?_
        repeat' (first | exact absurd rfl ‹_› | refine WL_call 0 rfl hck rfl rfl rfl ?_ | refine WL_call 0 rfl hc rfl rfl rfl ?_ | refine WL_call 0 rfl hf rfl rfl rfl ?_ | refine WL_p hty rfl rfl ?_ | refine WL_nil ?_ | refine AC_seq ?_ | refine AC_region ?_ | refine AC_skip ?_ | refine AC_condT rfl ?_ | refine AC_condF rfl ?_ | refine AC_ret ?_ | refine WL_ung rfl rfl ?_ | refine WL_offT rfl rfl rfl ?_ | refine WL_offF rfl rfl rfl ?_ | refine WL_offU rfl rfl rfl ?_ | refine ends_bool rfl ?_ | refine WL_cmp rfl rfl rfl rfl (fun _ => ?_) (fun _ => ?_) | refine AC_cond rfl (fun _ => ?_) (fun _ => ?_))
        rfl
    · refine FC_intro hty Tryz.func65 rfl rfl rfl fun w0 => ?_
      repeat' (first | exact absurd rfl ‹_› | exact absurd h1 ‹_› | refine WL_call 0 rfl hck rfl rfl rfl ?_ | refine WL_call 0 rfl hc rfl rfl rfl ?_ | refine WL_p hty rfl rfl ?_ | refine WL_nil ?_ | refine AC_seq ?_ | refine AC_region ?_ | refine AC_skip ?_ | refine AC_condT rfl ?_ | refine AC_condF rfl ?_ | refine AC_ret ?_ | refine WL_ung rfl rfl ?_ | refine WL_offT rfl rfl rfl ?_ | refine WL_offF rfl rfl rfl ?_ | refine WL_offU rfl rfl rfl ?_ | refine ends_bool rfl ?_ | refine WL_cmp rfl rfl rfl rfl (fun _ => ?_) (fun _ => ?_) | refine AC_cond rfl (fun _ => ?_) (fun _ => ?_))
      rw [decide_eq_false h1]; simp
  · refine FC_intro hty Tryz.func65 rfl rfl rfl fun w0 => ?_
    repeat' (first | exact absurd h0 ‹_› | refine WL_call 0 rfl hck rfl rfl rfl ?_ | refine WL_p hty rfl rfl ?_ | refine WL_nil ?_ | refine AC_seq ?_ | refine AC_region ?_ | refine AC_skip ?_ | refine AC_condT rfl ?_ | refine AC_condF rfl ?_ | refine AC_ret ?_ | refine WL_ung rfl rfl ?_ | refine WL_offT rfl rfl rfl ?_ | refine WL_offF rfl rfl rfl ?_ | refine WL_offU rfl rfl rfl ?_ | refine ends_bool rfl ?_ | refine WL_cmp rfl rfl rfl rfl (fun _ => ?_) (fun _ => ?_) | refine AC_cond rfl (fun _ => ?_) (fun _ => ?_))
    rw [decide_eq_false h0]; simp
end Go.Proofs.YtoknnfhgoikpiaaGreat

/-
  Terms made normal, in plain words.
-/
namespace Go.Proofs.YtoknnfhgoikpiaaGreat
set_option linter.unusedSimpArgs false
set_option linter.unusedVariables false
open Go.Aw Go.RowKit

/-- By these places, each the first one, a term becomes another one, of which nothing is reduced. -/
def chainN (lk : Tm → Option (Tm × Int)) : Tm → List (List Int) → Tm → Prop
  | t, [], a => t = a ∧ placeR lk a = none
  | t, x :: p, a => placeR lk t = some x ∧ (makeR lk t x).2 = 0 ∧ chainN lk (makeR lk t x).1 p a
theorem goN_chain {lk : Tm → Option (Tm × Int)} : ∀ {n : Nat} {t a : Tm} {ps qs : List (List Int)}, goN lk n t ps = (a, qs, 0) → ∃ p, qs = ps ++ p ∧ p.length ≤ n ∧ chainN lk t p a
  | 0, t, a, ps, qs, h => by
    simp only [goN] at h
    split at h
    · rename_i hp
      obtain ⟨rfl, rfl, _⟩ := Prod.mk.injEq .. ▸ h
      exact ⟨[], by simp, Nat.le_refl _, rfl, hp⟩
    · cases h
  | n + 1, t, a, ps, qs, h => by
    simp only [goN] at h
    split at h
    · rename_i hp
      obtain ⟨rfl, rfl, _⟩ := Prod.mk.injEq .. ▸ h
      exact ⟨[], by simp, by simp, rfl, hp⟩
    · rename_i x hx
      split at h
      · rename_i hm
        obtain ⟨p, h1, h2, h3⟩ := goN_chain h
        exact ⟨x :: p, by rw [h1, List.append_assoc]; rfl, by simp only [List.length_cons]; omega, hx, hm, h3⟩
      · rename_i hm
        have : (makeR lk t x).2 = 0 := congrArg (fun r => r.2.2) h
        exact absurd this hm
theorem goN_bad {lk : Tm → Option (Tm × Int)} : ∀ {n : Nat} {t : Tm} {ps : List (List Int)}, (goN lk n t ps).2.2 ≠ 0 → (goN lk n t ps).1 = zT ∧ (goN lk n t ps).2.1 = []
  | 0, t, ps, h => by
    simp only [goN] at h ⊢
    split at h
    · exact absurd rfl h
    · exact ⟨rfl, rfl⟩
  | n + 1, t, ps, h => by
    simp only [goN] at h ⊢
    split at h
    · exact absurd rfl h
    · split at h
      · rename_i hm; rw [if_pos hm]; exact goN_bad h
      · rename_i hm; rw [if_neg hm]; exact ⟨rfl, rfl⟩
theorem chain_go {lk : Tm → Option (Tm × Int)} : ∀ {p : List (List Int)} {t a : Tm}, chainN lk t p a → ∀ (n : Nat) (ps : List (List Int)), (p.length ≤ n → goN lk n t ps = (a, ps ++ p, 0)) ∧ (n < p.length → goN lk n t ps = (zT, [], 7))
  | [], t, a, h, n, ps => by
    obtain ⟨rfl, hp⟩ := h
    refine ⟨fun _ => ?_, fun q => by simp at q⟩
    rw [List.append_nil]
    cases n <;> simp only [goN, hp]
  | x :: p, t, a, h, n, ps => by
    obtain ⟨h1, h2, h3⟩ := h
    cases n with
    | zero =>
      refine ⟨fun q => by simp at q, fun _ => ?_⟩
      simp only [goN, h1]
    | succ n =>
      obtain ⟨g1, g2⟩ := chain_go h3 n (ps ++ [x])
      refine ⟨fun q => ?_, fun q => ?_⟩
      · simp only [goN, h1, if_pos h2]
        rw [g1 (by simp only [List.length_cons] at q; omega), List.append_assoc]; rfl
      · simp only [goN, h1, if_pos h2]
        exact g2 (by simp only [List.length_cons] at q; omega)
theorem chain_follow {lk : Tm → Option (Tm × Int)} : ∀ {p : List (List Int)} {t a : Tm}, chainN lk t p a → followN lk t p = (a, 0)
  | [], t, a, h => by rw [followN, h.1]
  | x :: p, t, a, h => by rw [followN, if_pos h.2.1]; exact chain_follow h.2.2
theorem chain_check {lk : Tm → Option (Tm × Int)} : ∀ {p : List (List Int)} {t a : Tm}, chainN lk t p a → checkT t = 0 → checkT a = 0 ∧ ∀ x, x ∈ p → x.length ≤ 6000
  | [], t, a, h, hc => ⟨h.1 ▸ hc, fun x q => by simp at q⟩
  | x :: p, t, a, h, hc => by
    obtain ⟨g1, g2⟩ := chain_check h.2.2 (makeR_check h.2.1)
    refine ⟨g1, fun y hy => ?_⟩
    rcases List.mem_cons.1 hy with rfl | hy
    · exact Nat.le_of_lt (placeR_len lk 6000 t _ (checkT_ok hc).1 h.1)
    · exact g2 y hy
theorem chain_end {lk : Tm → Option (Tm × Int)} : ∀ {p : List (List Int)} {t a : Tm}, chainN lk t p a → placeR lk a = none
  | [], _, _, h => h.2
  | _ :: _, _, _, h => chain_end h.2.2

theorem normR_bad {chk : Int} {lk : Tm → Option (Tm × Int)} {t : Tm} {fuel : Int} (h : (normR chk lk t fuel).2.2 ≠ 0) : (normR chk lk t fuel).1 = zT ∧ (normR chk lk t fuel).2.1 = [] := by
  unfold normR goR at h ⊢
  split at h
  · rename_i q; rw [if_pos q]; exact ⟨rfl, rfl⟩
  · rename_i q
    rw [if_neg q]
    split at h
    · rename_i q; rw [if_pos q]; exact ⟨rfl, rfl⟩
    · rename_i q
      rw [if_neg q]
      split at h
      · rename_i q; rw [if_pos q]; exact ⟨rfl, rfl⟩
      · rename_i q q2
        rw [if_neg q2, if_neg q]
        exact goN_bad h
theorem normR_is {lk : Tm → Option (Tm × Int)} {t : Tm} {fuel : Int} (hc : checkT t = 0) (h0 : 0 ≤ fuel) (h1 : fuel ≤ 4096) : normR 0 lk t fuel = goN lk fuel.toNat t [] := by
  unfold normR goR normM
  rw [if_neg (by omega), if_neg (by omega), if_neg (by omega), if_neg (by omega), show min fuel 4096 = fuel by omega]
theorem normR_ok {chk : Int} {lk : Tm → Option (Tm × Int)} {t : Tm} {fuel : Int} (h : (normR chk lk t fuel).2.2 = 0) (h0 : 0 ≤ fuel) (h1 : fuel ≤ 4096) :
    chk = 0 ∧ checkT t = 0 ∧ chainN lk t (normR chk lk t fuel).2.1 (normR chk lk t fuel).1 ∧ ((normR chk lk t fuel).2.1.length : Int) ≤ fuel := by
  have hc : chk = 0 := by
    unfold normR at h
    split at h
    · rename_i q; exact absurd h q
    · rename_i q; exact Classical.not_not.1 q
  subst hc
  have hc : checkT t = 0 := by
    unfold normR at h
    split at h
    · rename_i q; exact absurd rfl q
    · split at h
      · rename_i q; exact absurd h q
      · rename_i q; exact Classical.not_not.1 q
  rw [normR_is hc h0 h1] at h ⊢
  obtain ⟨p, g1, g2, g3⟩ := goN_chain (n := fuel.toNat) (t := t) (ps := []) (a := (goN lk fuel.toNat t []).1) (qs := (goN lk fuel.toNat t []).2.1) (by rw [← h])
  rw [List.nil_append] at g1
  rw [g1]
  exact ⟨rfl, hc, g3, by omega⟩
end Go.Proofs.YtoknnfhgoikpiaaGreat

/-
  What the laws on rules make first; that the program wakes.
-/
namespace Go.Proofs.YtoknnfhgoikpiaaGreat
set_option linter.unusedSimpArgs false
set_option linter.unusedVariables false
open Go.Aw Go.RowKit
def tbMade29_5 : List (Nat × List Nat) := [(0, []), (1, [0]), (2, [0, 1]), (3, [0, 1, 2]), (4, [0, 1, 2, 3]), (5, [0, 1, 2, 3, 4]), (6, [0, 1, 2, 3, 4, 5]), (7, [0, 1, 2, 3, 4, 5, 6]), (8, [0, 1, 2, 3, 4, 5, 6]), (9, [0, 1, 2, 3, 4, 5, 6, 8]), (10, [0, 1, 2, 3, 4, 5, 6, 7, 8, 9]), (11, [0, 1, 2, 3, 4, 5, 6, 7, 8, 9, 10]), (12, [0, 1, 2, 3, 4, 5, 6, 7, 8, 9, 10, 11]), (13, [0, 1, 2, 3, 4, 5, 6, 7, 8, 9, 10, 11, 12]), (14, [0, 1, 2, 3, 4, 5, 6, 7, 8, 9, 10, 11, 12, 13]), (15, [0, 1, 2, 3, 4, 5, 6, 7, 8, 9, 10, 11, 12, 13, 14]), (16, [0, 1, 2, 3, 4, 5, 6, 7, 8, 9, 10, 11, 12, 13, 14, 15]), (17, [0, 1, 2, 3, 4, 5, 6, 7, 8, 9, 10, 11, 12, 13, 14, 15, 16]), (18, [0, 1, 2, 3, 4, 5, 6, 7, 8, 9, 10, 11, 12, 13, 14, 15, 16, 17]), (19, [0, 1, 2, 3, 4, 5, 6, 7, 8, 9, 10, 11, 12, 13, 14, 15, 16, 17, 18]), (20, [0, 1, 2, 3, 4, 5, 6, 7, 8, 9, 10, 11, 12, 13, 14, 15, 16, 17, 18, 19]), (21, [0, 1, 2, 3, 4, 5, 6, 7, 8, 9, 10, 11, 12, 13, 14, 15, 16, 17, 18, 19, 20]), (22, [0, 1, 2, 3, 4, 5, 6, 7, 8, 9, 10, 11, 12, 13, 14, 15, 16, 17, 18, 19, 20, 21]), (23, [0, 1, 2, 3, 4, 5, 6, 7, 8, 9, 10, 11, 12, 13, 14, 15, 16, 17, 18, 19, 20, 21, 22]), (24, [0, 1, 2, 3, 4, 5, 6, 7, 8, 9, 10, 11, 12, 13, 14, 15, 16, 17, 18, 19, 20, 21, 22, 23]), (25, [0, 1, 2, 3, 4, 5, 6, 7, 8, 9, 10, 11, 12, 13, 14, 15, 16, 17, 18, 19, 20, 21, 22, 23, 24]), (26, [0, 1, 2, 3, 4, 5, 6, 7, 8, 9, 10, 11, 12, 13, 14, 15, 16, 17, 18, 19, 20, 21, 22, 23, 24, 25])]
attribute [local irreducible] WL AC WD WE MStep OkOp

def appW : Tm := .mk 6 0 [.mk 5 0 [.mk 2 1 [], .mk 1 0 []], .mk 2 0 []]
theorem root_w : root0 appW = (.mk 2 0 [], 0) := by kernel_rfl
theorem root_u : root0 (.mk 2 0 []) = (zT, 10) := by kernel_rfl
theorem is_w : is0 appW = true := by kernel_rfl
theorem is_u : is0 (.mk 2 0 []) = false := by kernel_rfl
theorem size_w : appW.size ≤ 1000000 := by
  have : appW.size = 5 := by kernel_rfl
  omega
theorem size_u : (Tm.mk 2 0 []).size ≤ 1000000 := by simp [Tm.size, sizes]

set_option maxHeartbeats 4000000 in
theorem wakes_spec : FC Tryz.prog 29 [] (.bool true) := by
  have h1 := root0_spec appW size_w true 0
  rw [root_w] at h1
  have h2 := root0_spec (.mk 2 0 []) size_u true 0
  rw [root_u] at h2
  have h3 := is0_spec appW size_w true 0
  rw [is_w] at h3
  have h4 := is0_spec (.mk 2 0 []) size_u true 0
  rw [is_u] at h4
  have h5 := check0_spec 0 true
  have h6 := kterm_same (.mk 2 0 []) (by have := size_u; omega)
  have u0 := ru_spec 0
  have u1 := ru_spec 1
  have v0 := rv_spec 0
  have t1 := rt2 5 (.mk 2 1 []) (.mk 1 0 [])
  have t2 := rt2 6 (.mk 5 0 [.mk 2 1 [], .mk 1 0 []]) (.mk 2 0 [])
  refine FC_intro hty Tryz.func29 rfl rfl rfl fun w0 => ?_
  repeat' (first | exact absurd rfl ‹_› | refine WL_m rfl (m_callF 0 rfl rfl rfl u1 rfl rfl rfl) ?_ | refine WL_m rfl (m_callF 0 rfl rfl rfl u0 rfl rfl rfl) ?_ | refine WL_call 0 rfl v0 rfl rfl rfl ?_ | refine WL_call 0 rfl t1 rfl rfl rfl ?_ | refine WL_call 0 rfl t2 rfl rfl rfl ?_ | refine WL_call 0 rfl h1 rfl rfl rfl ?_ | refine WL_call 0 rfl h2 rfl rfl rfl ?_ | refine AC_drawnE (id := 5) tbMade29_5 rfl (by kernel_rfl) ?_ | refine WE_cons (.inl ⟨rfl, m_callF 0 rfl rfl rfl u0 rfl rfl rfl⟩) ?_ | refine WE_call 0 rfl h6 rfl rfl rfl ?_ | refine WE_call 0 rfl h3 rfl rfl rfl ?_ | refine WE_call 0 rfl h4 rfl rfl rfl ?_ | refine WE_call 0 rfl h5 rfl rfl rfl ?_ | refine WE_cons (.inl ⟨rfl, stepE_ok hty rfl rfl⟩) ?_ | refine WE_ung rfl rfl ?_ | refine WE_offT rfl rfl rfl ?_ | refine WE_offF rfl rfl rfl ?_ | refine WE_offU rfl rfl rfl ?_ | refine WE_nil ⟨by kernel_rfl, ?_⟩ | refine WL_p hty rfl rfl ?_ | refine WL_nil ?_ | refine AC_seq ?_ | refine AC_region ?_ | refine AC_skip ?_ | refine AC_ret ?_ | refine ends_bool rfl ?_ | refine WE_cmp rfl rfl rfl rfl (fun _ => ?_) (fun _ => ?_))
  all_goals rfl

end Go.Proofs.YtoknnfhgoikpiaaGreat

/-
  Constants that the laws make; numbers made small.
-/
namespace Go.Proofs.YtoknnfhgoikpiaaGreat
set_option linter.unusedSimpArgs false
set_option linter.unusedVariables false
open Go.Aw Go.RowKit
attribute [local irreducible] WL AC WD WE MStep OkOp

theorem rC_spec (n : Int) : FC Tryz.prog 39 [.int .i64 n] (aT (.mk 3 n [])) := by
  refine FC_intro hty Tryz.func39 rfl rfl rfl fun w0 => ?_
  repeat' (first | refine WL_p hty rfl rfl ?_ | refine WL_nil ?_ | refine AC_seq ?_ | refine AC_region ?_ | refine AC_skip ?_ | refine AC_ret ?_ | refine ends_bool rfl ?_)
  refine ends_wk rfl rfl (.agg ?_)
  repeat' (first | exact Wks.nil | refine Wks.cons (Wk.refl _) ?_ | refine Wks.cons (Wk.full _ _ _) ?_ | refine Wks.cons (Wk.nilF _ _ _) ?_)

theorem intI : intK Tryz.prog 3 = some .i64 := by kernel_rfl
theorem intU : intK Tryz.prog 40 = some .u64 := by kernel_rfl
theorem intIs : (intK Tryz.prog 3).isSome = true := by rw [intI]; rfl
theorem intUs : (intK Tryz.prog 40).isSome = true := by rw [intU]; rfl
/-- uint(n) % uint(m), as an int. -/
def umod (n : Int) (m : Nat) : Int := IntKind.i64.wrap ((IntKind.u64.wrap n).tmod (IntKind.u64.wrap (m : Nat)))
theorem umod_ok (n : Int) {m : Nat} (h0 : 0 < m) (h1 : m ≤ 4194304) : IntKind.u64.wrap ((m : Nat) : Int) ≠ 0 ∧ ∃ k : Nat, k < m ∧ umod n m = (k : Int) := by
  have hw : IntKind.u64.wrap ((m : Nat) : Int) = (m : Int) := by simp [IntKind.wrap, IntKind.signed, IntKind.bits]; omega
  have hn : 0 ≤ IntKind.u64.wrap n := by simp only [IntKind.wrap, IntKind.signed, IntKind.bits]; simp; omega
  refine ⟨by omega, ?_⟩
  unfold umod
  rw [hw]
  have h2 : 0 ≤ (IntKind.u64.wrap n).tmod m := Int.tmod_nonneg _ hn
  have h3 : (IntKind.u64.wrap n).tmod m < m := Int.tmod_lt_of_pos _ (by omega)
  refine ⟨((IntKind.u64.wrap n).tmod m).toNat, by omega, ?_⟩
  rw [wrap_ok (by omega) (by omega)]; omega

end Go.Proofs.YtoknnfhgoikpiaaGreat

/-
  Rows of numbers, traces alike to themselves; few enough fuel; the layer's own waking.
-/
namespace Go.Proofs.YtoknnfhgoikpiaaGreat
set_option linter.unusedSimpArgs false
set_option linter.unusedVariables false
open Go.Aw Go.RowKit
def tbNormC49_6 : List (Nat × List Nat) := [(0, []), (1, []), (2, [0, 1]), (3, [0, 1, 2]), (4, []), (5, []), (6, [4, 5]), (7, [4, 5, 6]), (8, [0, 1, 2, 3, 4, 5, 6, 7])]
def tbNormC64_6 : List (Nat × List Nat) := [(0, []), (1, [0]), (2, []), (3, [0, 1, 2]), (4, [0, 1, 2, 3]), (5, []), (6, [5]), (7, []), (8, [5, 6, 7]), (9, [5, 6, 7, 8]), (10, [0, 1, 2, 3, 4, 5, 6, 7, 8, 9]), (11, [0, 1, 2, 3, 4, 5, 6, 7, 8, 9, 10])]
def tbNormC66_6 : List (Nat × List Nat) := [(0, []), (1, [0]), (2, [0, 1]), (3, [0, 1, 2]), (4, [0, 1, 2, 3]), (5, [0, 1, 2, 3, 4]), (6, [0, 1, 2, 3, 4, 5]), (7, [0, 1, 2, 3, 4, 5, 6]), (8, [0, 1, 2, 3, 4, 5, 6, 7]), (9, [0, 1, 2, 3, 4, 5, 6, 7, 8]), (10, [0, 1, 2, 3, 4, 5, 6, 7, 8, 9]), (11, [0, 1, 2, 3, 4, 5, 6, 7, 8, 9, 10]), (12, [0, 1, 2, 3, 4, 5, 6, 7, 8, 9, 10, 11]), (13, [0, 1, 2, 3, 4, 5, 6, 7, 8, 9, 10, 11, 12]), (14, [0, 1, 2, 3, 4, 5, 6, 7, 8, 9, 10, 11, 12, 13]), (15, [0, 1, 2, 3, 4, 5, 6, 7, 8, 9, 10, 11, 12, 13, 14]), (16, [0, 1, 2, 3, 4, 5, 6, 7, 8, 9, 10, 11, 12, 13, 14, 15]), (17, [0, 1, 2, 3, 4, 5, 6, 7, 8, 9, 10, 11, 12, 13, 14, 15, 16]), (18, [0, 1, 2, 3, 4, 5, 6, 7, 8, 9, 10, 11, 12, 13, 14, 15, 16]), (19, [0, 1, 2, 3, 4, 5, 6, 7, 8, 9, 10, 11, 12, 13, 14, 15, 16, 18]), (20, [0, 1, 2, 3, 4, 5, 6, 7, 8, 9, 10, 11, 12, 13, 14, 15, 16, 17, 18, 19]), (21, [0, 1, 2, 3, 4, 5, 6, 7, 8, 9, 10, 11, 12, 13, 14, 15, 16, 17, 18, 19, 20]), (22, [0, 1, 2, 3, 4, 5, 6, 7, 8, 9, 10, 11, 12, 13, 14, 15, 16, 17, 18, 19, 20, 21]), (23, [0, 1, 2, 3, 4, 5, 6, 7, 8, 9, 10, 11, 12, 13, 14, 15, 16, 17, 18, 19, 20, 21, 22]), (24, [0, 1, 2, 3, 4, 5, 6, 7, 8, 9, 10, 11, 12, 13, 14, 15, 16, 17, 18, 19, 20, 21, 22]), (25, [0, 1, 2, 3, 4, 5, 6, 7, 8, 9, 10, 11, 12, 13, 14, 15, 16, 17, 18, 19, 20, 21, 22, 24]), (26, [0, 1, 2, 3, 4, 5, 6, 7, 8, 9, 10, 11, 12, 13, 14, 15, 16, 17, 18, 19, 20, 21, 22, 23, 24, 25]), (27, [0, 1, 2, 3, 4, 5, 6, 7, 8, 9, 10, 11, 12, 13, 14, 15, 16, 17, 18, 19, 20, 21, 22, 23, 24, 25, 26]), (28, [0, 1, 2, 3, 4, 5, 6, 7, 8, 9, 10, 11, 12, 13, 14, 15, 16, 17, 18, 19, 20, 21, 22, 23, 24, 25, 26, 27]), (29, [0, 1, 2, 3, 4, 5, 6, 7, 8, 9, 10, 11, 12, 13, 14, 15, 16, 17, 18, 19, 20, 21, 22, 23, 24, 25, 26, 27, 28]), (30, [0, 1, 2, 3, 4, 5, 6, 7, 8, 9, 10, 11, 12, 13, 14, 15, 16, 17, 18, 19, 20, 21, 22, 23, 24, 25, 26, 27, 28, 29]), (31, [0, 1, 2, 3, 4, 5, 6, 7, 8, 9, 10, 11, 12, 13, 14, 15, 16, 17, 18, 19, 20, 21, 22, 23, 24, 25, 26, 27, 28, 29, 30]), (32, [0, 1, 2, 3, 4, 5, 6, 7, 8, 9, 10, 11, 12, 13, 14, 15, 16, 17, 18, 19, 20, 21, 22, 23, 24, 25, 26, 27, 28, 29, 30, 31]), (33, [0, 1, 2, 3, 4, 5, 6, 7, 8, 9, 10, 11, 12, 13, 14, 15, 16, 17, 18, 19, 20, 21, 22, 23, 24, 25, 26, 27, 28, 29, 30, 31, 32]), (34, [0, 1, 2, 3, 4, 5, 6, 7, 8, 9, 10, 11, 12, 13, 14, 15, 16, 17, 18, 19, 20, 21, 22, 23, 24, 25, 26, 27, 28, 29, 30, 31, 32, 33]), (35, [0, 1, 2, 3, 4, 5, 6, 7, 8, 9, 10, 11, 12, 13, 14, 15, 16, 17, 18, 19, 20, 21, 22, 23, 24, 25, 26, 27, 28, 29, 30, 31, 32, 33, 34]), (36, [0, 1, 2, 3, 4, 5, 6, 7, 8, 9, 10, 11, 12, 13, 14, 15, 16, 17, 18, 19, 20, 21, 22, 23, 24, 25, 26, 27, 28, 29, 30, 31, 32, 33, 34, 35]), (37, [0, 1, 2, 3, 4, 5, 6, 7, 8, 9, 10, 11, 12, 13, 14, 15, 16, 17, 18, 19, 20, 21, 22, 23, 24, 25, 26, 27, 28, 29, 30, 31, 32, 33, 34, 35, 36]), (38, [0, 1, 2, 3, 4, 5, 6, 7, 8, 9, 10, 11, 12, 13, 14, 15, 16, 17, 18, 19, 20, 21, 22, 23, 24, 25, 26, 27, 28, 29, 30, 31, 32, 33, 34, 35, 36, 37])]
attribute [local irreducible] WL AC WD WE MStep OkOp
attribute [local irreducible] isFnT intK

theorem kints_same (l : List Int) (h : l.length ≤ 1048576) : FC Tryz.prog 49 [sI l, sI l] (.bool true) := by
  refine FC_intro hty Tryz.func49 rfl rfl rfl fun w0 => ?_
  repeat' (first | exact absurd rfl ‹_› | refine WL_p hty rfl rfl ?_ | refine WL_nil ?_ | refine AC_seq ?_ | refine AC_region ?_ | refine AC_block ?_ | refine AC_skip ?_ | refine AC_condT rfl ?_ | refine AC_condF rfl ?_ | refine AC_exit ?_ | refine AC_ret ?_ | refine ends_bool rfl ?_ | refine WL_cmp rfl rfl rfl rfl (fun _ => ?_) (fun _ => ?_) | refine AC_cond rfl (fun _ => ?_) (fun _ => ?_))
  refine AC_for l.length (fun _ => True) (fun i => ⟨envOf [(0, sI l), (1, sI l), (5, .int .i64 (i : Nat))], bkOf []⟩) (less_sub ⟨⟨_, rfl, .inl ⟨.refl _, rfl⟩⟩, ⟨_, rfl, .inl ⟨.refl _, rfl⟩⟩, ⟨_, rfl, .inl ⟨.refl _, rfl⟩⟩, trivial⟩ trivial) trivial ?_
  intro i hi _
  repeat' (first | refine WL_p hty rfl rfl ?_ | refine WL_nil ?_ | refine AC_seq ?_ | refine AC_region ?_ | refine AC_block ?_ | refine AC_skip ?_ | refine AC_condT rfl ?_ | refine AC_condF rfl ?_ | refine AC_exit ?_ | refine AC_ret ?_ | refine ends_bool rfl ?_)
  refine WL_cmp rfl rfl rfl rfl (fun hc => ?_) (fun hc => ?_)
  · have hlt : i < l.length := by rw [rsI_length] at hc; omega
    obtain ⟨k, hk, _⟩ := get_of_lt hlt
    have rk := rsI_get hk
    repeat' (first | exact absurd rfl ‹_› | refine AC_drawnE (id := 6) tbNormC49_6 rfl (by kernel_rfl) ?_ | refine WE_cons (.inl ⟨rfl, stepE_ok hty rfl rfl⟩) ?_ | refine WE_cons (.inl ⟨rfl, m_idxN hty rfl rfl rfl (by assumption) rfl⟩) ?_ | refine WE_nil ⟨by kernel_rfl, ?_⟩ | refine WL_p hty rfl rfl ?_ | refine WL_nil ?_ | refine AC_seq ?_ | refine AC_region ?_ | refine AC_block ?_ | refine AC_skip ?_ | refine AC_condT rfl ?_ | refine AC_condF rfl ?_ | refine AC_exit ?_ | refine AC_ret ?_ | refine ends_bool rfl ?_ | refine WL_cmp rfl rfl rfl rfl (fun _ => ?_) (fun _ => ?_) | refine AC_cond rfl (fun _ => ?_) (fun _ => ?_) | refine WE_cmp rfl rfl rfl rfl (fun _ => ?_) (fun _ => ?_))
    refine ⟨hlt, trivial, (less_sub ⟨⟨_, rfl, .inl ⟨.refl _, rfl⟩⟩, ⟨_, rfl, .inl ⟨.refl _, rfl⟩⟩, ⟨_, rfl, see_eq ?_ rfl⟩, trivial⟩ trivial)⟩
    exact congrArg (AV.int .i64) ((wrap_ok (by omega) (by omega)).trans (by omega))
  · repeat' (first | refine WL_p hty rfl rfl ?_ | refine WL_nil ?_ | refine AC_seq ?_ | refine AC_region ?_ | refine AC_block ?_ | refine AC_skip ?_ | refine AC_condT rfl ?_ | refine AC_condF rfl ?_ | refine AC_exit ?_ | refine AC_ret ?_ | refine ends_bool rfl ?_ | refine WL_cmp rfl rfl rfl rfl (fun _ => ?_) (fun _ => ?_) | refine AC_cond rfl (fun _ => ?_) (fun _ => ?_))
    rfl

theorem ktrace_same (l : List (List Int)) (h : l.length ≤ 1048576) (hp : ∀ p, p ∈ l → p.length ≤ 1048576) : FC Tryz.prog 64 [.agg [sP l], .agg [sP l]] (.bool true) := by
  refine FC_intro hty Tryz.func64 rfl rfl rfl fun w0 => ?_
  repeat' (first | exact absurd rfl ‹_› | refine WL_p hty rfl rfl ?_ | refine WL_nil ?_ | refine AC_seq ?_ | refine AC_region ?_ | refine AC_block ?_ | refine AC_skip ?_ | refine AC_condT rfl ?_ | refine AC_condF rfl ?_ | refine AC_exit ?_ | refine AC_ret ?_ | refine ends_bool rfl ?_ | refine WL_cmp rfl rfl rfl rfl (fun _ => ?_) (fun _ => ?_) | refine AC_cond rfl (fun _ => ?_) (fun _ => ?_))
  refine AC_for l.length (fun _ => True) (fun i => ⟨envOf [(2, .ptr 2 0), (3, .ptr 3 0), (5, .int .i64 (i : Nat))], bkOf [(2, .box [sP l]), (3, .box [sP l])]⟩) (less_sub ⟨⟨_, rfl, .inl ⟨.refl _, rfl⟩⟩, ⟨_, rfl, .inl ⟨.refl _, rfl⟩⟩, ⟨_, rfl, .inl ⟨.refl _, rfl⟩⟩, trivial⟩ ⟨⟨⟨_, rfl, .refl _⟩, rfl⟩, ⟨⟨_, rfl, .refl _⟩, rfl⟩, trivial⟩) trivial ?_
  intro i hi _
  repeat' (first | refine WL_p hty rfl rfl ?_ | refine WL_nil ?_ | refine AC_seq ?_ | refine AC_region ?_ | refine AC_block ?_ | refine AC_skip ?_ | refine AC_condT rfl ?_ | refine AC_condF rfl ?_ | refine AC_exit ?_ | refine AC_ret ?_ | refine ends_bool rfl ?_)
  refine WL_cmp rfl rfl rfl rfl (fun hc => ?_) (fun hc => ?_)
  · have hlt : i < l.length := by rw [rsP_length] at hc; omega
    obtain ⟨p, hpg, hpm⟩ := get_of_lt hlt
    have rp := rsP_get hpg
    have hk := kints_same p (hp p hpm)
    repeat' (first | refine AC_drawnE (id := 6) tbNormC64_6 rfl (by kernel_rfl) ?_ | refine WE_call 0 rfl hk rfl rfl rfl ?_ | refine WE_cons (.inl ⟨rfl, stepE_ok hty rfl rfl⟩) ?_ | refine WE_cons (.inl ⟨rfl, m_idxN hty rfl rfl rfl (by assumption) rfl⟩) ?_ | refine WE_nil ⟨by kernel_rfl, ?_⟩ | refine WL_p hty rfl rfl ?_ | refine WL_nil ?_ | refine AC_seq ?_ | refine AC_region ?_ | refine AC_block ?_ | refine AC_skip ?_ | refine AC_condT rfl ?_ | refine AC_condF rfl ?_ | refine AC_exit ?_ | refine AC_ret ?_ | refine ends_bool rfl ?_ | refine WL_cmp rfl rfl rfl rfl (fun _ => ?_) (fun _ => ?_) | refine AC_cond rfl (fun _ => ?_) (fun _ => ?_))
    refine ⟨hlt, trivial, (less_sub ⟨⟨_, rfl, .inl ⟨.refl _, rfl⟩⟩, ⟨_, rfl, .inl ⟨.refl _, rfl⟩⟩, ⟨_, rfl, see_eq ?_ rfl⟩, trivial⟩ ⟨⟨⟨_, rfl, .refl _⟩, rfl⟩, ⟨⟨_, rfl, .refl _⟩, rfl⟩, trivial⟩)⟩
    exact congrArg (AV.int .i64) ((wrap_ok (by omega) (by omega)).trans (by omega))
  · repeat' (first | refine WL_p hty rfl rfl ?_ | refine WL_nil ?_ | refine AC_seq ?_ | refine AC_region ?_ | refine AC_block ?_ | refine AC_skip ?_ | refine AC_condT rfl ?_ | refine AC_condF rfl ?_ | refine AC_exit ?_ | refine AC_ret ?_ | refine ends_bool rfl ?_ | refine WL_cmp rfl rfl rfl rfl (fun _ => ?_) (fun _ => ?_) | refine AC_cond rfl (fun _ => ?_) (fun _ => ?_))
    rfl

def fuelI (n : Int) : Int := umod n 120
theorem fuelI_ok (n : Int) : 0 ≤ fuelI n ∧ fuelI n ≤ 119 := by
  obtain ⟨_, k, h1, h2⟩ := umod_ok n (m := 120) (by omega) (by omega)
  unfold fuelI; omega
theorem fuel_spec (n : Int) : FC Tryz.prog 58 [.int .i64 n] (.int .i64 (fuelI n)) := by
  have z : (120 : Int) ≠ 0 := by decide
  have hw : IntKind.u64.wrap ((120 : Nat) : Int) = 120 := by decide
  refine FC_intro hty Tryz.func58 rfl rfl rfl fun w0 => ?_
  repeat' (first | refine WL_m rfl (m_conv rfl intIs intU rfl) ?_ | refine WL_m rfl (m_conv rfl intUs intI rfl) ?_ | refine WL_m rfl (m_rem rfl rfl z rfl) ?_ | refine WL_p hty rfl rfl ?_ | refine WL_nil ?_ | refine AC_seq ?_ | refine AC_region ?_ | refine AC_skip ?_ | refine AC_ret ?_ | refine ends_bool rfl ?_ | refine WL_cmp rfl rfl rfl rfl (fun _ => ?_) (fun _ => ?_))
  refine ends_int rfl ?_
  unfold fuelI umod
  rw [hw]

def wnT : Tm := .mk 9 0 [.mk 8 0 [.mk 2 0 [], .mk 2 1 [], .mk 2 2 []]]
theorem norm_w1 : normR 0 lk0 wnT 1 = (.mk 2 1 [], [[]], 0) := by kernel_rfl
theorem norm_w0 : normR 0 lk0 wnT 0 = (zT, [], 7) := by kernel_rfl
theorem nrun_w : nrunR 0 lk0 wnT [[]] = (.mk 2 1 [], 0) := by kernel_rfl
theorem normal_w1 : normalR 0 lk0 (.mk 2 1 []) = true := by kernel_rfl
theorem normal_w0 : normalR 0 lk0 wnT = false := by kernel_rfl
set_option maxHeartbeats 4000000 in
theorem wakes16_spec : FC Tryz.prog 66 [] (.bool true) := by
  have hsz : wnT.size ≤ 1000 := by simp [wnT, Tm.size, sizes]
  have hl := lk_none 0 true
  have h1 := norm_spec hl wnT 1 (by omega)
  rw [norm_w1] at h1
  have h2 := nrun_spec hl wnT [[]] (by omega) (by simp)
  rw [nrun_w] at h2
  have h3 := norm_spec hl wnT 0 (by omega)
  rw [norm_w0] at h3
  have h4 := normal_spec hl (.mk 2 1 []) (by simp [Tm.size, sizes])
  rw [normal_w1] at h4
  have h5 := normal_spec hl wnT (by omega)
  rw [normal_w0] at h5
  have h6 := kterm_same (.mk 2 1 []) (by simp [Tm.size, sizes])
  have u0 := ru_spec 0
  have u1 := ru_spec 1
  have u2 := ru_spec 2
  have t1 := rt3 8 (.mk 2 0 []) (.mk 2 1 []) (.mk 2 2 [])
  have t2 := rt1 9 (.mk 8 0 [.mk 2 0 [], .mk 2 1 [], .mk 2 2 []])
  refine FC_intro hty Tryz.func66 rfl rfl rfl fun w0 => ?_
  repeat' (first | exact absurd rfl ‹_› | refine WL_m rfl (m_callF 0 rfl rfl rfl u0 rfl rfl rfl) ?_ | refine WL_m rfl (m_callF 0 rfl rfl rfl u1 rfl rfl rfl) ?_ | refine WL_m rfl (m_callF 0 rfl rfl rfl u2 rfl rfl rfl) ?_ | refine WL_call 0 rfl t1 rfl rfl rfl ?_ | refine WL_call 0 rfl t2 rfl rfl rfl ?_ | refine WL_call 0 rfl h1 rfl rfl rfl ?_ | refine WL_call 0 rfl h2 rfl rfl rfl ?_ | refine WL_call 0 rfl h3 rfl rfl rfl ?_ | (refine AC_rgA (id := 6) ?_; refine AC_less (less_sub (l := [(1, _), (2, _), (3, _), (4, _), (5, _), (6, _), (7, _), (10, _)]) (bl := [(2, _), (3, _), (4, _), (6, _)]) ⟨⟨_, rfl, .inl ⟨.refl _, rfl⟩⟩, ⟨_, rfl, .inl ⟨.refl _, rfl⟩⟩, ⟨_, rfl, .inl ⟨.refl _, rfl⟩⟩, ⟨_, rfl, .inl ⟨.refl _, rfl⟩⟩, ⟨_, rfl, .inl ⟨.refl _, rfl⟩⟩, ⟨_, rfl, .inl ⟨.refl _, rfl⟩⟩, ⟨_, rfl, .inl ⟨.refl _, rfl⟩⟩, ⟨_, rfl, .inl ⟨.refl _, rfl⟩⟩, trivial⟩ ⟨⟨⟨_, rfl, .refl _⟩, rfl⟩, ⟨⟨_, rfl, .refl _⟩, rfl⟩, ⟨⟨_, rfl, .refl _⟩, rfl⟩, ⟨⟨_, rfl, .refl _⟩, rfl⟩, trivial⟩) ?_; refine AC_drawnE (id := 6) tbNormC66_6 rfl (by kernel_rfl) ?_) | refine WE_cons (.inl ⟨rfl, m_callF 0 rfl rfl rfl u1 rfl rfl rfl⟩) ?_ | refine WE_call 0 rfl h6 rfl rfl rfl ?_ | refine WE_call 0 rfl h4 rfl rfl rfl ?_ | refine WE_call 0 rfl h5 rfl rfl rfl ?_ | refine WE_cons (.inl ⟨rfl, stepE_ok hty rfl rfl⟩) ?_ | refine WE_ung rfl rfl ?_ | refine WE_offT rfl rfl rfl ?_ | refine WE_offF rfl rfl rfl ?_ | refine WE_offU rfl rfl rfl ?_ | refine WE_nil ⟨by kernel_rfl, ?_⟩ | refine WL_p hty rfl rfl ?_ | refine WL_nil ?_ | refine AC_seq ?_ | refine AC_region ?_ | refine AC_skip ?_ | refine AC_ret ?_ | refine ends_bool rfl ?_ | refine WE_cmp rfl rfl rfl rfl (fun _ => ?_) (fun _ => ?_))
  all_goals rfl
end Go.Proofs.YtoknnfhgoikpiaaGreat
