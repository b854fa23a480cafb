/-
  Places in terms: what stands at one, what a term is with another one there.; Reductions at places: step.At, Put, Find, First, Make, Do, by what is known of rule.Check and rule.Look over a row.; Places in terms, in plain words: what stands at a place, what is put there.; Reductions at places: step.First, Make, Do.; Steps over no constants; the layer's own waking.; Rows of numbers, read.
-/
import Derived.Test.YtoknnfhgoikpiaaGreatGC
import Derived.Test.YtoknnfhgoikpiaaGreatGB
import Derived.Test.YtoknnfhgoikpiaaGreatGD
import Derived.Test.YtoknnfhgoikpiaaGreatGE

/-
  Places in terms: what stands at one, what a term is with another one there.
-/
namespace Go.Proofs.YtoknnfhgoikpiaaGreat
set_option linter.unusedSimpArgs false
set_option linter.unusedVariables false
open Go.Aw Go.RowKit
def tbStepA97_4 : List (Nat × List Nat) := [(0, []), (1, [0]), (2, []), (3, [2]), (4, [2, 3]), (5, []), (6, [5]), (7, []), (8, [7]), (9, [7, 8]), (10, [5, 6, 7, 8, 9]), (11, [5, 6, 7, 8, 9, 10]), (12, []), (13, [12]), (14, []), (15, [5, 6, 7, 8, 9, 10, 11, 12, 13, 14]), (16, [0, 1, 2, 3, 4, 5, 6, 7, 8, 9, 10, 11, 12, 13, 14, 15]), (17, [0, 1, 2, 3, 4, 5, 6, 7, 8, 9, 10, 11, 12, 13, 14, 15, 16])]
attribute [local irreducible] WL AC WD WE MStep OkOp

abbrev sI (l : List Int) : AV := .lst 1 (rsI l) false
theorem rsI_append (a b : List Int) : rsI (a ++ b) = rsI a ++ rsI b := by simp [rsI]
def findT : Tm → List Int → Option Tm
  | t, [] => some t
  | t, k :: p => if 0 ≤ k ∧ k < t.kids.length then findT (t.kids.getD k.toNat zT) p else none
theorem findT_append : ∀ (a b : List Int) (t : Tm), findT t (a ++ b) = (findT t a).bind fun u => findT u b
  | [], b, t => rfl
  | k :: a, b, t => by
    simp only [List.cons_append, findT]
    split
    · exact findT_append a b _
    · rfl
theorem findT_next {p : List Int} {j : Nat} {k : Int} (h : p[j]? = some k) (t : Tm) : findT t (p.take (j + 1)) = (findT t (p.take j)).bind fun u => if 0 ≤ k ∧ k < u.kids.length then some (u.kids.getD k.toNat zT) else none := by
  rw [List.take_add_one, h, Option.toList_some, findT_append]; rfl
theorem findT_none {p : List Int} {j : Nat} {t : Tm} (h : findT t (p.take j) = none) : findT t p = none := by
  rw [← List.take_append_drop j p, findT_append, h]; rfl
theorem getD_size {l : List Tm} {i : Nat} (h : i < l.length) : (l.getD i zT).size ≤ sizes l := by
  rw [List.getD_eq_getElem?_getD, List.getElem?_eq_getElem h]
  exact size_le_sizes (List.getElem_mem h)
theorem findT_size : ∀ (p : List Int) (t u : Tm), findT t p = some u → u.size ≤ t.size
  | [], t, u, h => by obtain rfl := Option.some.inj h; exact Nat.le_refl _
  | k :: p, t, u, h => by
    simp only [findT] at h
    split at h
    · rename_i hk
      have := findT_size p _ u h
      have := getD_size (l := t.kids) (i := k.toNat) (by omega)
      have := t.size_eq
      omega
    · cases h

theorem find_spec (t : Tm) (p : List Int) (ht : t.size ≤ 1048576) (hp : p.length ≤ 1048576) : FC Tryz.prog 95 [aT t, sI p] (.tup [aT ((findT t p).getD zT), .bool (findT t p).isSome]) := by
  refine FC_intro hty Tryz.func95 rfl rfl rfl fun w0 => ?_
  repeat' (first | refine WL_p hty rfl rfl ?_ | refine WL_nil ?_ | refine AC_seq ?_ | refine AC_region ?_ | refine AC_block ?_ | refine AC_skip ?_ | refine AC_condT rfl ?_ | refine AC_condF rfl ?_ | refine AC_exit ?_ | refine AC_ret ?_ | refine WL_ung rfl rfl ?_ | refine WL_offT rfl rfl rfl ?_ | refine WL_offF rfl rfl rfl ?_ | refine WL_offU rfl rfl rfl ?_ | refine WL_m rfl (m_idxN hty rfl rfl rfl (by assumption) rfl) ?_ | refine ends_bool rfl ?_ | refine WL_cmp rfl rfl rfl rfl (fun _ => ?_) (fun _ => ?_) | refine AC_cond rfl (fun _ => ?_) (fun _ => ?_))
  refine AC_for p.length (fun j => (findT t (p.take j)).isSome = true) (fun j => ⟨envOf [(2, .ptr 2 0), (4, .ptr 4 0), (8, sI p), (9, .int .i64 ((rsI p).length : Nat)), (10, .int .i64 (j : Nat))], bkOf [(2, .box (cT ((findT t (p.take j)).getD zT))), (4, .box [.int .i64 0, .int .i64 0, .lst 3 [] true])]⟩)
    (less_sub ⟨⟨_, rfl, .inl ⟨.refl _, rfl⟩⟩, ⟨_, rfl, .inl ⟨.refl _, rfl⟩⟩, ⟨_, rfl, .inl ⟨.refl _, rfl⟩⟩, ⟨_, rfl, .inl ⟨.refl _, rfl⟩⟩, ⟨_, rfl, .inl ⟨.refl _, rfl⟩⟩, trivial⟩ ⟨⟨⟨_, rfl, .refl _⟩, rfl⟩, ⟨⟨_, rfl, .refl _⟩, rfl⟩, trivial⟩) rfl ?_
  intro j hj hI
  obtain ⟨u, hu⟩ := Option.isSome_iff_exists.1 hI
  have husz := findT_size _ _ _ hu
  have hus := u.size_eq
  have hul := len_le_sizes u.kids
  rw [hu, Option.getD_some]
  repeat' (first | refine WL_p hty rfl rfl ?_ | refine WL_nil ?_ | refine AC_seq ?_ | refine AC_region ?_ | refine AC_block ?_ | refine AC_skip ?_ | refine AC_condT rfl ?_ | refine AC_condF rfl ?_ | refine AC_exit ?_ | refine AC_ret ?_ | refine WL_ung rfl rfl ?_ | refine WL_offT rfl rfl rfl ?_ | refine WL_offF rfl rfl rfl ?_ | refine WL_offU rfl rfl rfl ?_ | refine WL_m rfl (m_idxN hty rfl rfl rfl (by assumption) rfl) ?_ | refine ends_bool rfl ?_)
  refine WL_cmp rfl rfl rfl rfl (fun hc => ?_) (fun hc => ?_)
  · have hlt : j < p.length := by rw [rsI_length] at hc; omega
    obtain ⟨k, hk, hmem⟩ := get_of_lt hlt
    have rk := rsI_get hk
    have hn := findT_next hk t
    rw [hu] at hn
    have hn : findT t (p.take (j + 1)) = if 0 ≤ k ∧ k < u.kids.length then some (u.kids.getD k.toNat zT) else none := hn
    have hrl : (rsT u.kids).length = u.kids.length := rsT_length _
    by_cases hok : 0 ≤ k ∧ k < u.kids.length
    · rw [if_pos hok] at hn
      obtain ⟨c, hcg, _⟩ := get_of_lt (show k.toNat < u.kids.length by omega)
      have rc := rsT_get hcg
      have hgd : u.kids.getD k.toNat zT = c := by rw [List.getD_eq_getElem?_getD, hcg]; rfl
      rw [hgd] at hn
      have h0 := hok.1
      repeat' (first | exact absurd (show (0 : Int) ≤ k from h0) (Int.not_le.2 ‹_›) | exact absurd (show k < ((rsT u.kids).length : Nat) by omega) (Int.not_lt.2 ‹_›) | refine WL_m rfl (m_idxL hty rfl rfl rfl h0 rc rfl) ?_ | refine WL_p hty rfl rfl ?_ | refine WL_nil ?_ | refine AC_seq ?_ | refine AC_region ?_ | refine AC_block ?_ | refine AC_skip ?_ | refine AC_condT rfl ?_ | refine AC_condF rfl ?_ | refine AC_exit ?_ | refine AC_ret ?_ | refine WL_ung rfl rfl ?_ | refine WL_offT rfl rfl rfl ?_ | refine WL_offF rfl rfl rfl ?_ | refine WL_offU rfl rfl rfl ?_ | refine WL_m rfl (m_idxN hty rfl rfl rfl (by assumption) rfl) ?_ | refine ends_bool rfl ?_ | refine WL_cmp rfl rfl rfl rfl (fun _ => ?_) (fun _ => ?_) | refine AC_cond rfl (fun _ => ?_) (fun _ => ?_))
      refine ⟨hlt, by rw [hn]; rfl, (less_sub ⟨⟨_, rfl, .inl ⟨.refl _, rfl⟩⟩, ⟨_, rfl, .inl ⟨.refl _, rfl⟩⟩, ⟨_, rfl, .inl ⟨.refl _, rfl⟩⟩, ⟨_, rfl, .inl ⟨.refl _, rfl⟩⟩, ⟨_, rfl, see_eq ?_ rfl⟩, trivial⟩ ⟨⟨⟨_, rfl, .of_eq ?_⟩, rfl⟩, ⟨⟨_, rfl, .refl _⟩, rfl⟩, trivial⟩)⟩
      · exact congrArg (AV.int .i64) ((wrap_ok (by omega) (by omega)).trans (by omega))
      · rw [hn]; rfl
    · rw [if_neg hok] at hn
      have hno := findT_none hn
      rw [hno]
      repeat' (first | (refine AC_rgA (id := 6) ?_; exfalso; omega) | refine WL_p hty rfl rfl ?_ | refine WL_nil ?_ | refine AC_seq ?_ | refine AC_region ?_ | refine AC_block ?_ | refine AC_skip ?_ | refine AC_condT rfl ?_ | refine AC_condF rfl ?_ | refine AC_exit ?_ | refine AC_ret ?_ | refine WL_ung rfl rfl ?_ | refine WL_offT rfl rfl rfl ?_ | refine WL_offF rfl rfl rfl ?_ | refine WL_offU rfl rfl rfl ?_ | refine WL_m rfl (m_idxN hty rfl rfl rfl (by assumption) rfl) ?_ | refine ends_bool rfl ?_ | refine WL_cmp rfl rfl rfl rfl (fun _ => ?_) (fun _ => ?_) | refine AC_cond rfl (fun _ => ?_) (fun _ => ?_))
      all_goals
        refine ends_wk rfl rfl (.tup (.cons (.agg ?_) (.cons (.refl _) .nil)))
        repeat' (first | exact Wks.nil | refine Wks.cons (Wk.refl _) ?_ | refine Wks.cons (Wk.full _ _ _) ?_ | refine Wks.cons (Wk.nilF _ _ _) ?_)
  · obtain rfl : j = p.length := by rw [rsI_length] at hc; omega
    rw [List.take_length] at hu
    rw [hu]
    repeat' (first | refine WL_p hty rfl rfl ?_ | refine WL_nil ?_ | refine AC_seq ?_ | refine AC_region ?_ | refine AC_block ?_ | refine AC_skip ?_ | refine AC_condT rfl ?_ | refine AC_condF rfl ?_ | refine AC_exit ?_ | refine AC_ret ?_ | refine WL_ung rfl rfl ?_ | refine WL_offT rfl rfl rfl ?_ | refine WL_offF rfl rfl rfl ?_ | refine WL_offU rfl rfl rfl ?_ | refine WL_m rfl (m_idxN hty rfl rfl rfl (by assumption) rfl) ?_ | refine ends_bool rfl ?_ | refine WL_cmp rfl rfl rfl rfl (fun _ => ?_) (fun _ => ?_) | refine AC_cond rfl (fun _ => ?_) (fun _ => ?_))
    exact ends_wk rfl rfl (.refl _)

def setT : Tm → List Int → Tm → Tm
  | _, [], u => u
  | t, k :: p, u => .mk t.kind t.num (t.kids.set k.toNat (setT (t.kids.getD k.toNat zT) p u))

theorem clone_spec (l : List Tm) (hne : l ≠ []) (hl : l.length ≤ 1048576) : FC Tryz.prog 166 [sT l] (.own 25 3 (rsT l) true) := by
  cases l with
  | nil => exact absurd rfl hne
  | cons a l =>
    have hlr : (rsT (a :: l)).length ≤ 1048576 := by rw [rsT_length]; exact hl
    have hsl : isSlT Tryz.prog 23 = true := by kernel_rfl
    rw [show (sT (a :: l) : AV) = .lst 3 (cT a :: rsT l) false by rw [← rsc]]
    rw [rsc] at hlr ⊢
    refine FC_intro hty Tryz.func166 rfl rfl rfl fun w0 => ?_
    repeat' (first | refine WL_m rfl (m_eqNilS rfl hsl rfl) ?_ | refine WL_m rfl (m_appF hty 20 rfl rfl rfl rfl rfl rfl rfl (List.cons_ne_nil _ _) (by simp only [List.length_nil, List.length_cons] at *; omega) rfl rfl rfl) ?_ | refine WL_p hty rfl rfl ?_ | refine WL_nil ?_ | refine AC_seq ?_ | refine AC_region ?_ | refine AC_skip ?_ | refine AC_condT rfl ?_ | refine AC_condF rfl ?_ | refine AC_ret ?_ | refine ends_bool rfl ?_ | refine WL_cmp rfl rfl rfl rfl (fun _ => ?_) (fun _ => ?_) | refine AC_cond rfl (fun _ => ?_) (fun _ => ?_))
    exact ends_own rfl rfl rfl

theorem set_spec : ∀ (p : List Int) (t u : Tm), t.size ≤ 1048576 → p.length ≤ 1048576 → (findT t p).isSome = true → FC Tryz.prog 97 [aT t, sI p, aT u] (aT (setT t p u))
  | [], t, u, ht, hp, hf => by
    refine FC_intro hty Tryz.func97 rfl rfl rfl fun w0 => ?_
    repeat' (first | exact absurd rfl ‹_› | refine WL_p hty rfl rfl ?_ | refine WL_nil ?_ | refine AC_seq ?_ | refine AC_region ?_ | refine AC_skip ?_ | refine AC_condT rfl ?_ | refine AC_condF rfl ?_ | refine AC_ret ?_ | refine ends_bool rfl ?_ | refine WL_cmp rfl rfl rfl rfl (fun _ => ?_) (fun _ => ?_) | refine AC_cond rfl (fun _ => ?_) (fun _ => ?_))
    exact ends_wk rfl rfl (.refl _)
  | k :: p, t, u, ht, hp, hf => by
    have hts := t.size_eq
    have htl := len_le_sizes t.kids
    have hok : 0 ≤ k ∧ k < t.kids.length := by
      simp only [findT] at hf
      split at hf
      · assumption
      · cases hf
    simp only [findT, if_pos hok] at hf
    obtain ⟨c, hcg, hcm⟩ := get_of_lt (show k.toNat < t.kids.length by omega)
    have hcs := size_le_sizes hcm
    have rc := rsT_get hcg
    have hgd : t.kids.getD k.toNat zT = c := by rw [List.getD_eq_getElem?_getD, hcg]; rfl
    rw [hgd] at hf
    have hlen : (k :: p).length = p.length + 1 := rfl
    have ih := set_spec p c u (by omega) (by omega) hf
    have hcl := clone_spec t.kids (fun q => by rw [q] at hcg; simp at hcg) (by omega)
    have hst : setT t (k :: p) u = .mk t.kind t.num (t.kids.set k.toNat (setT c p u)) := by rw [setT, hgd]
    rw [hst]
    generalize setT c p u = r at ih
    have hpl : (rsI (k :: p)).length = p.length + 1 := by rw [rsI_length]; rfl
    have r0 : (rsI (k :: p))[0]? = some [.int .i64 k] := rfl
    have hsp : (sI p : AV) = .lst 1 (((rsI (k :: p)).take (rsI (k :: p)).length).drop 1) false := by rw [List.take_length]; rfl
    rw [hsp] at ih
    have h0 := hok.1
    show FC Tryz.prog 97 [aT t, .lst 1 (rsI (k :: p)) false, aT u] _
    generalize hri : rsI (k :: p) = ri at *
    refine FC_intro hty Tryz.func97 rfl rfl rfl fun w0 => ?_
    repeat' (first | (refine WL_cmp rfl rfl rfl rfl (fun hq => absurd (show ((ri.length : Nat) : Int) = 0 from hq) (by omega)) (fun _ => ?_)) | refine WL_call 113 rfl hcl rfl rfl rfl ?_ | (refine AC_rgA (id := 4) ?_; refine AC_drawnE (id := 4) tbStepA97_4 rfl (by kernel_rfl) ?_) | refine WE_m rfl (m_idxN (i := 0) hty rfl rfl rfl r0 rfl) ?_ | refine WE_m rfl (m_sliceL hty 1 ri.length rfl rfl ⟨_, 1, rfl, rfl⟩ rfl (by omega) (Nat.le_refl _) rfl) ?_ | refine WE_call 0 rfl ih rfl rfl rfl ?_ | refine WE_m rfl (m_idxA hty rfl rfl rfl rfl rfl h0 (by rw [rsT_length]; exact hok.2) rfl) ?_ | refine WE_m rfl (m_loadA hty rfl rfl rfl rfl rc rfl rfl rfl) ?_ | refine WE_m rfl (m_storeA hty rfl rfl rfl rfl rc rfl rfl rfl rfl rfl) ?_ | refine WE_cons (.inl ⟨rfl, stepE_ok hty rfl rfl⟩) ?_ | refine WE_cons (.inl ⟨rfl, m_idxN hty rfl rfl rfl (by assumption) rfl⟩) ?_ | refine WE_nil ⟨by kernel_rfl, ?_⟩ | refine WL_p hty rfl rfl ?_ | refine WL_nil ?_ | refine AC_seq ?_ | refine AC_region ?_ | refine AC_skip ?_ | refine AC_condT rfl ?_ | refine AC_condF rfl ?_ | refine AC_ret ?_ | refine ends_bool rfl ?_ | refine WL_cmp rfl rfl rfl rfl (fun _ => ?_) (fun _ => ?_) | refine AC_cond rfl (fun _ => ?_) (fun _ => ?_))
    refine ends_less (less_freeze 113 rfl) ?_
    refine ends_wk rfl rfl (.of_eq ?_)
    have hrs : (rsT t.kids).set k.toNat (cT r) = rsT (t.kids.set k.toNat r) := by rw [rsT_map, rsT_map, List.map_set, ← rT_eq]
    exact congrArg (fun x => AV.agg [.int .i64 t.kind, .int .i64 t.num, .lst 3 x false]) hrs
end Go.Proofs.YtoknnfhgoikpiaaGreat

/-
  Reductions at places: step.At, Put, Find, First, Make, Do, by what is known of rule.Check and rule.Look over a row.
-/
namespace Go.Proofs.YtoknnfhgoikpiaaGreat
set_option linter.unusedSimpArgs false
set_option linter.unusedVariables false
open Go.Aw Go.RowKit
attribute [local irreducible] WL AC WD WE MStep OkOp
attribute [local irreducible] isFnT

theorem setT_size : ∀ (p : List Int) (t u : Tm), (findT t p).isSome = true → (setT t p u).size ≤ t.size + u.size
  | [], t, u, _ => by simp [setT]
  | k :: p, t, u, h => by
    simp only [findT] at h
    split at h
    · rename_i hk
      have ih := setT_size p (t.kids.getD k.toNat zT) u h
      have hlt : k.toNat < t.kids.length := by omega
      have hs : ∀ (l : List Tm) (i : Nat) (x : Tm), i < l.length → sizes (l.set i x) + (l.getD i zT).size = sizes l + x.size := by
        intro l
        induction l with
        | nil => intro i x hi; simp at hi
        | cons a l ihl =>
          intro i x hi
          cases i with
          | zero => simp [sizes]; omega
          | succ i => have := ihl i x (by simpa using hi); simp only [List.set_cons_succ, sizes, List.getD_cons_succ]; omega
      have := hs t.kids k.toNat (setT (t.kids.getD k.toNat zT) p u) hlt
      have ht := t.size_eq
      simp only [setT, Tm.size]
      omega
    · cases h
theorem findT_formed : ∀ (p : List Int) (t u : Tm), findT t p = some u → formedT t = true → formedT u = true
  | [], t, u, h, hf => by obtain rfl := Option.some.inj h; exact hf
  | k :: p, t, u, h, hf => by
    simp only [findT] at h
    split at h
    · rename_i hk
      refine findT_formed p _ u h (formedT_kids hf ?_)
      rw [List.getD_eq_getElem?_getD, List.getElem?_eq_getElem (show k.toNat < t.kids.length by omega)]
      exact List.getElem_mem _
    · cases h

def wholeT (t : Tm) : Tm × Int := if checkT t ≠ 0 then (zT, checkT t) else (t, 0)
theorem whole_spec (t : Tm) (ht : t.size ≤ 4194304) : FC Tryz.prog 96 [aT t] (.tup [aT (wholeT t).1, .int .i64 (wholeT t).2]) := by
  have hc := tcheckG t ht
  unfold wholeT
  refine FC_intro hty Tryz.func96 rfl rfl rfl fun w0 => ?_
  repeat' (first | refine WL_call 0 rfl hc rfl rfl rfl ?_ | refine WL_p hty rfl rfl ?_ | refine WL_nil ?_ | refine AC_seq ?_ | refine AC_region ?_ | refine AC_skip ?_ | refine AC_condT rfl ?_ | refine AC_condF rfl ?_ | refine AC_ret ?_ | refine ends_bool rfl ?_ | refine WL_cmp rfl rfl rfl rfl (fun _ => ?_) (fun _ => ?_) | refine AC_cond rfl (fun _ => ?_) (fun _ => ?_))
  · rw [if_pos (by assumption)]
    refine ends_wk rfl rfl (.tup (.cons (.agg ?_) (.cons (.refl _) .nil)))
    repeat' (first | exact Wks.nil | refine Wks.cons (Wk.refl _) ?_ | refine Wks.cons (Wk.full _ _ _) ?_ | refine Wks.cons (Wk.nilF _ _ _) ?_)
  · rw [if_neg (by assumption)]
    exact ends_wk rfl rfl (.refl _)

def atR (t : Tm) (p : List Int) : Tm × Int := if checkT t ≠ 0 then (zT, checkT t) else match findT t p with
  | none => (zT, 10)
  | some u => (u, 0)
theorem at_spec (t : Tm) (p : List Int) (ht : t.size ≤ 1048576) (hp : p.length ≤ 1048576) : FC Tryz.prog 47 [aT t, sI p] (.tup [aT (atR t p).1, .int .i64 (atR t p).2]) := by
  have hc := tcheck_spec t ht
  have hf := find_spec t p ht hp
  cases h : findT t p with
  | none =>
    have hr : atR t p = if checkT t ≠ 0 then (zT, checkT t) else (zT, 10) := by unfold atR; rw [h]
    rw [h] at hf
    rw [hr]
    refine FC_intro hty Tryz.func47 rfl rfl rfl fun w0 => ?_
    repeat' (first | refine WL_call 0 rfl hc rfl rfl rfl ?_ | refine WL_call 0 rfl hf rfl rfl rfl ?_ | refine WL_p hty rfl rfl ?_ | refine WL_nil ?_ | refine AC_seq ?_ | refine AC_region ?_ | refine AC_skip ?_ | refine AC_condT rfl ?_ | refine AC_condF rfl ?_ | refine AC_ret ?_ | refine ends_bool rfl ?_ | refine WL_cmp rfl rfl rfl rfl (fun _ => ?_) (fun _ => ?_) | refine AC_cond rfl (fun _ => ?_) (fun _ => ?_))
    · rw [if_pos (by assumption)]
      refine ends_wk rfl rfl (.tup (.cons (.agg ?_) (.cons (.refl _) .nil)))
      repeat' (first | exact Wks.nil | refine Wks.cons (Wk.refl _) ?_ | refine Wks.cons (Wk.full _ _ _) ?_ | refine Wks.cons (Wk.nilF _ _ _) ?_)
    · rw [if_neg (by assumption)]
      refine ends_wk rfl rfl (.tup (.cons (.agg ?_) (.cons (.refl _) .nil)))
      repeat' (first | exact Wks.nil | refine Wks.cons (Wk.refl _) ?_ | refine Wks.cons (Wk.full _ _ _) ?_ | refine Wks.cons (Wk.nilF _ _ _) ?_)
  | some u =>
    have hr : atR t p = if checkT t ≠ 0 then (zT, checkT t) else (u, 0) := by unfold atR; rw [h]
    have hus := findT_size _ _ _ h
    have htw := twin_spec u (by omega)
    rw [h, Option.getD_some] at hf
    rw [hr]
    refine FC_intro hty Tryz.func47 rfl rfl rfl fun w0 => ?_
    repeat' (first | refine WL_call 0 rfl hc rfl rfl rfl ?_ | refine WL_call 0 rfl hf rfl rfl rfl ?_ | refine WL_call 0 rfl htw rfl rfl rfl ?_ | refine WL_p hty rfl rfl ?_ | refine WL_nil ?_ | refine AC_seq ?_ | refine AC_region ?_ | refine AC_skip ?_ | refine AC_condT rfl ?_ | refine AC_condF rfl ?_ | refine AC_ret ?_ | refine ends_bool rfl ?_ | refine WL_cmp rfl rfl rfl rfl (fun _ => ?_) (fun _ => ?_) | refine AC_cond rfl (fun _ => ?_) (fun _ => ?_))
    · rw [if_pos (by assumption)]
      refine ends_wk rfl rfl (.tup (.cons (.agg ?_) (.cons (.refl _) .nil)))
      repeat' (first | exact Wks.nil | refine Wks.cons (Wk.refl _) ?_ | refine Wks.cons (Wk.full _ _ _) ?_ | refine Wks.cons (Wk.nilF _ _ _) ?_)
    · rw [if_neg (by assumption)]
      exact ends_wk rfl rfl (.refl _)

def putR (t : Tm) (p : List Int) (u : Tm) : Tm × Int := if checkT t ≠ 0 then (zT, checkT t) else if checkT u ≠ 0 then (zT, checkT u) else if (findT t p).isSome = true then wholeT (setT t p u) else (zT, 10)
set_option maxHeartbeats 4000000 in
theorem put_spec (t : Tm) (p : List Int) (u : Tm) (ht : t.size ≤ 1048576) (hp : p.length ≤ 1048576) (hu : u.size ≤ 1048576) : FC Tryz.prog 41 [aT t, sI p, aT u] (.tup [aT (putR t p u).1, .int .i64 (putR t p u).2]) := by
  have hc := tcheck_spec t ht
  have hcu := tcheck_spec u hu
  have hf := find_spec t p ht hp
  by_cases h1 : checkT t = 0
  · by_cases h2 : checkT u = 0
    · obtain ⟨c1, _, _⟩ := checkT_ok h1
      obtain ⟨c2, _, _⟩ := checkT_ok h2
      rw [h1] at hc
      rw [h2] at hcu
      by_cases h : (findT t p).isSome = true
      · have hr : putR t p u = wholeT (setT t p u) := by unfold putR; rw [if_neg (by omega), if_neg (by omega), if_pos h]
        have hss := setT_size p t u h
        have hst := set_spec p t u ht hp h
        have htw := twin_spec (setT t p u) (by omega)
        have hwh := whole_spec (setT t p u) (by omega)
        rw [h] at hf
        rw [hr]
        refine FC_intro hty Tryz.func41 rfl rfl rfl fun w0 => ?_
        repeat' (first | exact absurd rfl ‹_› | refine WL_call 0 rfl hc rfl rfl rfl ?_ | refine WL_call 0 rfl hcu rfl rfl rfl ?_ | refine WL_call 0 rfl hf rfl rfl rfl ?_ | refine WL_call 0 rfl hst rfl rfl rfl ?_ | refine WL_call 0 rfl htw rfl rfl rfl ?_ | refine WL_call 0 rfl hwh rfl rfl rfl ?_ | refine WL_p hty rfl rfl ?_ | refine WL_nil ?_ | refine AC_seq ?_ | refine AC_region ?_ | refine AC_skip ?_ | refine AC_condT rfl ?_ | refine AC_condF rfl ?_ | refine AC_ret ?_ | refine ends_bool rfl ?_ | refine WL_cmp rfl rfl rfl rfl (fun _ => ?_) (fun _ => ?_) | refine AC_cond rfl (fun _ => ?_) (fun _ => ?_))
        exact ends_wk rfl rfl (.refl _)
      · have hr : putR t p u = (zT, 10) := by unfold putR; rw [if_neg (by omega), if_neg (by omega), if_neg h]
        rw [show (findT t p).isSome = false by simpa using h] at hf
        rw [hr]
        refine FC_intro hty Tryz.func41 rfl rfl rfl fun w0 => ?_
        repeat' (first | exact absurd rfl ‹_› | refine WL_call 0 rfl hc rfl rfl rfl ?_ | refine WL_call 0 rfl hcu rfl rfl rfl ?_ | refine WL_call 0 rfl hf rfl rfl rfl ?_ | refine WL_p hty rfl rfl ?_ | refine WL_nil ?_ | refine AC_seq ?_ | refine AC_region ?_ | refine AC_skip ?_ | refine AC_condT rfl ?_ | refine AC_condF rfl ?_ | refine AC_ret ?_ | refine ends_bool rfl ?_ | refine WL_cmp rfl rfl rfl rfl (fun _ => ?_) (fun _ => ?_) | refine AC_cond rfl (fun _ => ?_) (fun _ => ?_))
        refine ends_wk rfl rfl (.tup (.cons (.agg ?_) (.cons (.refl _) .nil)))
        repeat' (first | exact Wks.nil | refine Wks.cons (Wk.refl _) ?_ | refine Wks.cons (Wk.full _ _ _) ?_ | refine Wks.cons (Wk.nilF _ _ _) ?_)
    · have hr : putR t p u = (zT, checkT u) := by unfold putR; rw [if_neg (by omega), if_pos h2]
      rw [h1] at hc
      rw [hr]
      refine FC_intro hty Tryz.func41 rfl rfl rfl fun w0 => ?_
      repeat' (first | exact absurd rfl ‹_› | exact absurd h2 ‹_› | refine WL_call 0 rfl hc rfl rfl rfl ?_ | refine WL_call 0 rfl hcu rfl rfl rfl ?_ | refine WL_p hty rfl rfl ?_ | refine WL_nil ?_ | refine AC_seq ?_ | refine AC_region ?_ | refine AC_skip ?_ | refine AC_condT rfl ?_ | refine AC_condF rfl ?_ | refine AC_ret ?_ | refine ends_bool rfl ?_ | refine WL_cmp rfl rfl rfl rfl (fun _ => ?_) (fun _ => ?_) | refine AC_cond rfl (fun _ => ?_) (fun _ => ?_))
      refine ends_wk rfl rfl (.tup (.cons (.agg ?_) (.cons (.refl _) .nil)))
      repeat' (first | exact Wks.nil | refine Wks.cons (Wk.refl _) ?_ | refine Wks.cons (Wk.full _ _ _) ?_ | refine Wks.cons (Wk.nilF _ _ _) ?_)
  · have hr : putR t p u = (zT, checkT t) := by unfold putR; rw [if_pos h1]
    rw [hr]
    refine FC_intro hty Tryz.func41 rfl rfl rfl fun w0 => ?_
    repeat' (first | exact absurd (by assumption) h1 | exact absurd h1 ‹_› | refine WL_call 0 rfl hc rfl rfl rfl ?_ | refine WL_p hty rfl rfl ?_ | refine WL_nil ?_ | refine AC_seq ?_ | refine AC_region ?_ | refine AC_skip ?_ | refine AC_condT rfl ?_ | refine AC_condF rfl ?_ | refine AC_ret ?_ | refine ends_bool rfl ?_ | refine WL_cmp rfl rfl rfl rfl (fun _ => ?_) (fun _ => ?_) | refine AC_cond rfl (fun _ => ?_) (fun _ => ?_))
    refine ends_wk rfl rfl (.tup (.cons (.agg ?_) (.cons (.refl _) .nil)))
    repeat' (first | exact Wks.nil | refine Wks.cons (Wk.refl _) ?_ | refine Wks.cons (Wk.full _ _ _) ?_ | refine Wks.cons (Wk.nilF _ _ _) ?_)

/-! over a row, by what is known of rule.Check and rule.Look -/
structure LK (es : Nat) (rows : List (List AV)) (full : Bool) (chk : Int) (lk : Tm → Option (Tm × Int)) : Prop where
  ck : FC Tryz.prog 22 [.lst es rows full] (.int .i64 chk)
  look : chk = 0 → ∀ t, t.size ≤ 6000 → formedT t = true → ∃ v, Runs v (lk t) ∧ FC Tryz.prog 71 [.lst es rows full, aT t] v
  size : ∀ t u, t.size ≤ 6000 → lk t = some u → u.1.size ≤ 1048576

mutual
def placeR (lk : Tm → Option (Tm × Int)) : Tm → Option (List Int)
  | .mk k n l => match lk (.mk k n l) with
    | some _ => some []
    | none => placesR lk 0 l
def placesR (lk : Tm → Option (Tm × Int)) : Int → List Tm → Option (List Int)
  | _, [] => none
  | i, t :: l => match placeR lk t with
    | some p => some (i :: p)
    | none => placesR lk (i + 1) l
end
theorem placeR_eq (lk : Tm → Option (Tm × Int)) (t : Tm) : placeR lk t = match lk t with | some _ => some [] | none => placesR lk 0 t.kids := by cases t; rw [placeR]; rfl
theorem placesR_append (lk : Tm → Option (Tm × Int)) : ∀ (a b : List Tm) (i : Int), placesR lk i a = none → placesR lk i (a ++ b) = placesR lk (i + a.length) b
  | [], b, i, _ => by simp
  | t :: a, b, i, h => by
    simp only [placesR] at h
    split at h
    · cases h
    · rename_i ht
      simp only [List.cons_append, placesR, ht, List.length_cons]
      rw [placesR_append lk a b (i + 1) h, show i + 1 + (a.length : Int) = i + ((a.length + 1 : Nat) : Int) by omega]
theorem placesR_next {lk : Tm → Option (Tm × Int)} {l : List Tm} {j : Nat} {k : Tm} (h : l[j]? = some k) (h0 : placesR lk 0 (l.take j) = none) (h1 : placeR lk k = none) : placesR lk 0 (l.take (j + 1)) = none := by
  rw [List.take_add_one, h, Option.toList_some, placesR_append lk _ _ 0 h0]
  simp [placesR, h1]
theorem placesR_hit {lk : Tm → Option (Tm × Int)} {l : List Tm} {j : Nat} {k : Tm} {p : List Int} (h : l[j]? = some k) (h0 : placesR lk 0 (l.take j) = none) (h1 : placeR lk k = some p) : placesR lk 0 l = some ((j : Int) :: p) := by
  have hlt : j < l.length := (List.getElem?_eq_some_iff.1 h).1
  conv => lhs; rw [← List.take_append_drop j l]
  rw [placesR_append lk _ _ 0 h0, List.drop_eq_getElem_cons hlt]
  have : l[j] = k := by rw [List.getElem?_eq_getElem hlt] at h; exact Option.some.inj h
  rw [this]
  simp only [placesR, h1, List.length_take, Nat.min_eq_left (Nat.le_of_lt hlt), Int.zero_add]
def pathV : Option (List Int) → AV
  | none => .tup [sI [], .bool false]
  | some p => .tup [sI p, .bool true]
theorem placeR_len (lk : Tm → Option (Tm × Int)) : ∀ (n : Nat) (t : Tm) (p : List Int), t.size ≤ n → placeR lk t = some p → p.length < n := by
  intro n
  induction n with
  | zero => intro t p ht; have := t.size_pos; omega
  | succ n ih =>
    intro t p ht h
    rw [placeR_eq] at h
    split at h
    · obtain rfl := Option.some.inj h; simp
    · have hs := t.size_eq
      have : ∀ (l : List Tm) (i : Int) (p : List Int), sizes l ≤ n → placesR lk i l = some p → p.length ≤ n := by
        intro l
        induction l with
        | nil => intro i p _ h; simp [placesR] at h
        | cons a l ihl =>
          intro i p hl h
          simp only [sizes] at hl
          simp only [placesR] at h
          split at h
          · rename_i q hq
            obtain rfl := Option.some.inj h
            have := ih a q (by omega) hq
            simp only [List.length_cons]; omega
          · exact ihl (i + 1) p (by omega) h
      have := this t.kids 0 p (by omega) h
      omega

set_option maxHeartbeats 4000000 in
theorem sfind_all {es : Nat} {rows : List (List AV)} {full : Bool} {lk : Tm → Option (Tm × Int)} (hlk : LK es rows full 0 lk) : ∀ n, n ≤ 6000 → ∀ t : Tm, t.size ≤ n → formedT t = true → FC Tryz.prog 99 [.lst es rows full, aT t] (pathV (placeR lk t)) := by
  intro n
  induction n with
  | zero => intro _ t ht; have := t.size_pos; omega
  | succ n ih =>
  intro hn t ht hfm
  have hs := t.size_eq
  have htl := len_le_sizes t.kids
  obtain ⟨v, hrv, hl⟩ := hlk.look rfl t (by omega) hfm
  obtain ⟨ht1, ht2, ht3⟩ := hrv.thaw
  have hpe := placeR_eq lk t
  cases h : lk t with
  | some u =>
    rw [h] at hpe hrv
    obtain ⟨g, xa, rfl, hxa, hfc⟩ := hrv
    rw [show placeR lk t = some [] from hpe]
    refine FC_intro hty Tryz.func99 rfl rfl rfl fun w0 => ?_
    repeat' (first | refine WL_call 0 rfl hl ht1 rfl rfl ?_ | (refine WL_m rfl (m_neNil (v := .fn (.func g) [] xa) ?_ rfl ?_ hfn41 rfl) ?_; (focus rfl); (focus rfl)) | refine WL_p hty rfl rfl ?_ | refine WL_nil ?_ | refine AC_seq ?_ | refine AC_region ?_ | refine AC_block ?_ | refine AC_skip ?_ | refine AC_condT rfl ?_ | refine AC_condF rfl ?_ | refine AC_exit ?_ | refine AC_ret ?_ | refine WL_m rfl (m_idxN hty rfl rfl rfl (by assumption) rfl) ?_ | refine ends_bool rfl ?_ | refine WL_cmp rfl rfl rfl rfl (fun _ => ?_) (fun _ => ?_) | refine AC_cond rfl (fun _ => ?_) (fun _ => ?_))
    exact ends_wk rfl rfl (.tup (.cons (.nilF _ _ _) (.cons (.refl _) .nil)))
  | none =>
    rw [h] at hpe hrv
    obtain rfl : v = .nilf := hrv
    have hpe : placeR lk t = placesR lk 0 t.kids := hpe
    rw [hpe]
    refine FC_intro hty Tryz.func99 rfl rfl rfl fun w0 => ?_
    repeat' (first | refine WL_call 0 rfl hl rfl rfl rfl ?_ | (refine WL_m rfl (m_neNil (v := .nilf) ?_ rfl ?_ hfn41 rfl) ?_; (focus rfl); (focus rfl)) | refine WL_p hty rfl rfl ?_ | refine WL_nil ?_ | refine AC_seq ?_ | refine AC_region ?_ | refine AC_block ?_ | refine AC_skip ?_ | refine AC_condT rfl ?_ | refine AC_condF rfl ?_ | refine AC_exit ?_ | refine AC_ret ?_ | refine WL_m rfl (m_idxN hty rfl rfl rfl (by assumption) rfl) ?_ | refine ends_bool rfl ?_ | refine WL_cmp rfl rfl rfl rfl (fun _ => ?_) (fun _ => ?_) | refine AC_cond rfl (fun _ => ?_) (fun _ => ?_))
    refine AC_for t.kids.length (fun j => placesR lk 0 (t.kids.take j) = none) (fun j => ⟨envOf [(0, .lst es rows full), (15, sT t.kids), (16, .int .i64 ((rsT t.kids).length : Nat)), (17, .int .i64 (j : Nat))], bkOf []⟩)
      (less_sub ⟨⟨_, rfl, .inl ⟨.refl _, rfl⟩⟩, ⟨_, rfl, .inl ⟨.refl _, rfl⟩⟩, ⟨_, rfl, .inl ⟨.refl _, rfl⟩⟩, ⟨_, rfl, .inl ⟨.refl _, rfl⟩⟩, trivial⟩ trivial) rfl ?_
    intro j hj hI
    repeat' (first | refine WL_p hty rfl rfl ?_ | refine WL_nil ?_ | refine AC_seq ?_ | refine AC_region ?_ | refine AC_block ?_ | refine AC_skip ?_ | refine AC_condT rfl ?_ | refine AC_condF rfl ?_ | refine AC_exit ?_ | refine AC_ret ?_ | refine WL_m rfl (m_idxN hty rfl rfl rfl (by assumption) rfl) ?_ | refine ends_bool rfl ?_)
    refine WL_cmp rfl rfl rfl rfl (fun hc => ?_) (fun hc => ?_)
    · have hlt : j < t.kids.length := by rw [rsT_length] at hc; omega
      obtain ⟨k, hk, hmem⟩ := get_of_lt hlt
      have hks := size_le_sizes hmem
      have rk := rsT_get hk
      have hkf := ih (by omega) k (by omega) (formedT_kids hfm hmem)
      cases hp : placeR lk k with
      | none =>
        rw [hp] at hkf
        repeat' (first | refine WL_call 0 rfl hkf rfl rfl rfl ?_ | refine WL_p hty rfl rfl ?_ | refine WL_nil ?_ | refine AC_seq ?_ | refine AC_region ?_ | refine AC_block ?_ | refine AC_skip ?_ | refine AC_condT rfl ?_ | refine AC_condF rfl ?_ | refine AC_exit ?_ | refine AC_ret ?_ | refine WL_m rfl (m_idxN hty rfl rfl rfl (by assumption) rfl) ?_ | refine ends_bool rfl ?_ | refine WL_cmp rfl rfl rfl rfl (fun _ => ?_) (fun _ => ?_) | refine AC_cond rfl (fun _ => ?_) (fun _ => ?_))
        refine ⟨hlt, placesR_next hk hI hp, (less_sub ⟨⟨_, rfl, .inl ⟨.refl _, rfl⟩⟩, ⟨_, rfl, .inl ⟨.refl _, rfl⟩⟩, ⟨_, rfl, .inl ⟨.refl _, rfl⟩⟩, ⟨_, rfl, see_eq ?_ rfl⟩, trivial⟩ trivial)⟩
        exact congrArg (AV.int .i64) ((wrap_ok (by omega) (by omega)).trans (by omega))
      | some p =>
        rw [hp] at hkf
        rw [placesR_hit hk hI hp]
        have hpl := placeR_len lk 6000 k p (by omega) hp
        cases p with
        | nil =>
          repeat' (first | refine WL_call 0 rfl hkf rfl rfl rfl ?_ | refine WL_m rfl (m_app0 hty rfl rfl rfl rfl rfl rfl rfl) ?_ | refine WL_p hty rfl rfl ?_ | refine WL_nil ?_ | refine AC_seq ?_ | refine AC_region ?_ | refine AC_block ?_ | refine AC_skip ?_ | refine AC_condT rfl ?_ | refine AC_condF rfl ?_ | refine AC_exit ?_ | refine AC_ret ?_ | refine WL_m rfl (m_idxN hty rfl rfl rfl (by assumption) rfl) ?_ | refine ends_bool rfl ?_ | refine WL_cmp rfl rfl rfl rfl (fun _ => ?_) (fun _ => ?_) | refine AC_cond rfl (fun _ => ?_) (fun _ => ?_))
          exact ends_wk rfl rfl (.tup (.cons (.full _ _ _) (.cons (.refl _) .nil)))
        | cons x p =>
          have hxl : (rsI (x :: p)).length = p.length + 1 := by rw [rsI_length]; rfl
          simp only [List.length_cons] at hpl
          repeat' (first | refine WL_call 0 rfl hkf rfl rfl rfl ?_ | refine WL_m rfl (m_appF hty 32 rfl rfl rfl rfl rfl rfl rfl (List.cons_ne_nil _ _) (by simp only [List.length_nil, List.length_cons] at *; omega) rfl rfl rfl) ?_ | refine WL_p hty rfl rfl ?_ | refine WL_nil ?_ | refine AC_seq ?_ | refine AC_region ?_ | refine AC_block ?_ | refine AC_skip ?_ | refine AC_condT rfl ?_ | refine AC_condF rfl ?_ | refine AC_exit ?_ | refine AC_ret ?_ | refine WL_m rfl (m_idxN hty rfl rfl rfl (by assumption) rfl) ?_ | refine ends_bool rfl ?_ | refine WL_cmp rfl rfl rfl rfl (fun _ => ?_) (fun _ => ?_) | refine AC_cond rfl (fun _ => ?_) (fun _ => ?_))
          refine ends_less (less_freeze 32 rfl) ?_
          exact ends_wk rfl rfl (.refl _)
    · obtain rfl : j = t.kids.length := by rw [rsT_length] at hc; omega
      rw [List.take_length] at hI
      rw [hI]
      repeat' (first | refine WL_p hty rfl rfl ?_ | refine WL_nil ?_ | refine AC_seq ?_ | refine AC_region ?_ | refine AC_block ?_ | refine AC_skip ?_ | refine AC_condT rfl ?_ | refine AC_condF rfl ?_ | refine AC_exit ?_ | refine AC_ret ?_ | refine WL_m rfl (m_idxN hty rfl rfl rfl (by assumption) rfl) ?_ | refine ends_bool rfl ?_ | refine WL_cmp rfl rfl rfl rfl (fun _ => ?_) (fun _ => ?_) | refine AC_cond rfl (fun _ => ?_) (fun _ => ?_))
      exact ends_wk rfl rfl (.tup (.cons (.nilF _ _ _) (.cons (.refl _) .nil)))
end Go.Proofs.YtoknnfhgoikpiaaGreat

/-
  Places in terms, in plain words: what stands at a place, what is put there.
-/
namespace Go.Proofs.YtoknnfhgoikpiaaGreat
set_option linter.unusedSimpArgs false
set_option linter.unusedVariables false
open Go.Aw Go.RowKit

theorem mk_kids (k n : Int) (l : List Tm) : (Tm.mk k n l).kids = l := rfl
theorem mk_kind (k n : Int) (l : List Tm) : (Tm.mk k n l).kind = k := rfl
theorem mk_num (k n : Int) (l : List Tm) : (Tm.mk k n l).num = n := rfl
theorem checkT_of {t : Tm} (h1 : t.size ≤ 6000) (h2 : t.depth ≤ 200) (h3 : formedT t = true) : checkT t = 0 := by
  unfold checkT
  rw [if_neg (by omega), if_neg (by omega), if_pos h3]
theorem findT_depth : ∀ (p : List Int) (t u : Tm), findT t p = some u → u.depth ≤ t.depth
  | [], t, u, h => by obtain rfl := Option.some.inj h; exact Nat.le_refl _
  | k :: p, t, u, h => by
    simp only [findT] at h
    split at h
    · rename_i hk
      have h1 := findT_depth p _ u h
      have hm : t.kids.getD k.toNat zT ∈ t.kids := by
        rw [List.getD_eq_getElem?_getD, List.getElem?_eq_getElem (show k.toNat < t.kids.length by omega)]
        exact List.getElem_mem _
      have h2 := depth_le_depths hm
      have h3 := t.depth_eq
      omega
    · cases h
theorem check_sub {t u : Tm} {p : List Int} (h : checkT t = 0) (hf : findT t p = some u) : checkT u = 0 := by
  obtain ⟨h1, h2, h3⟩ := checkT_ok h
  have := findT_size p t u hf
  have := findT_depth p t u hf
  exact checkT_of (by omega) (by omega) (findT_formed p t u hf h3)
theorem at_ok {t : Tm} {p : List Int} (h : (atR t p).2 = 0) : checkT t = 0 ∧ findT t p = some (atR t p).1 := by
  unfold atR at h ⊢
  split at h
  · rename_i q; exact absurd h q
  · rename_i q
    rw [if_neg q]
    cases hf : findT t p with
    | none => rw [hf] at h; cases h
    | some u => exact ⟨Classical.not_not.1 q, rfl⟩
theorem at_is {t u : Tm} {p : List Int} (h : checkT t = 0) (hf : findT t p = some u) : atR t p = (u, 0) := by
  unfold atR; rw [if_neg (by omega), hf]
theorem at_not {t : Tm} {p : List Int} (h : checkT t = 0) (hf : findT t p = none) : atR t p = (zT, 10) := by
  unfold atR; rw [if_neg (by omega), hf]
theorem put_ok {t u : Tm} {p : List Int} (h : (putR t p u).2 = 0) : checkT t = 0 ∧ checkT u = 0 ∧ (findT t p).isSome = true ∧ checkT (setT t p u) = 0 ∧ (putR t p u).1 = setT t p u := by
  unfold putR at h ⊢
  split at h
  · rename_i q; exact absurd h q
  · rename_i q
    rw [if_neg q]
    split at h
    · rename_i q; exact absurd h q
    · rename_i q2
      rw [if_neg q2]
      split at h
      · rename_i q3
        rw [if_pos q3]
        unfold wholeT at h ⊢
        split at h
        · rename_i q4; exact absurd h q4
        · rename_i q4
          rw [if_neg q4]
          exact ⟨Classical.not_not.1 q, Classical.not_not.1 q2, q3, Classical.not_not.1 q4, rfl⟩
      · cases h
theorem put_is {t u : Tm} {p : List Int} (h1 : checkT t = 0) (h2 : checkT u = 0) (h3 : (findT t p).isSome = true) (h4 : checkT (setT t p u) = 0) : putR t p u = (setT t p u, 0) := by
  unfold putR wholeT
  rw [if_neg (by omega), if_neg (by omega), if_pos h3, if_neg (by omega)]
theorem setT_append (q : List Int) (u : Tm) : ∀ (p : List Int) (t a : Tm), findT t p = some a → setT t (p ++ q) u = setT t p (setT a q u)
  | [], t, a, h => by obtain rfl := Option.some.inj h; rfl
  | k :: p, t, a, h => by
    simp only [findT] at h
    split at h
    · simp only [List.cons_append, setT, setT_append q u p _ a h]
    · cases h
theorem getD_set (l : List Tm) {i : Nat} (x : Tm) (h : i < l.length) : (l.set i x).getD i zT = x := by
  rw [List.getD_eq_getElem?_getD, List.getElem?_set_self (by omega)]; rfl
theorem set_getD (l : List Tm) {i : Nat} (x : Tm) (h : i < l.length) : (l.set i x).set i (l.getD i zT) = l := by
  rw [List.set_set, List.getD_eq_getElem?_getD, List.getElem?_eq_getElem h, Option.getD_some, List.set_getElem_self]
theorem setT_find (u : Tm) : ∀ (p : List Int) (t : Tm), (findT t p).isSome = true → findT (setT t p u) p = some u
  | [], t, _ => rfl
  | k :: p, t, h => by
    simp only [findT] at h
    split at h
    · rename_i hk
      simp only [setT, findT, mk_kids, List.length_set]
      rw [if_pos hk, getD_set _ _ (by omega)]
      exact setT_find u p _ h
    · cases h
theorem setT_back (u : Tm) : ∀ (p : List Int) (t a : Tm), findT t p = some a → setT (setT t p u) p a = t
  | [], t, a, h => by obtain rfl := Option.some.inj h; rfl
  | k :: p, t, a, h => by
    simp only [findT] at h
    split at h
    · rename_i hk
      simp only [setT, mk_kids, mk_kind, mk_num]
      rw [getD_set _ _ (by omega), setT_back u p _ a h, set_getD _ _ (by omega)]
      cases t; rfl
    · cases h
theorem sizes_set : ∀ (l : List Tm) (i : Nat) (x : Tm), i < l.length → sizes (l.set i x) + (l.getD i zT).size = sizes l + x.size
  | [], i, x, h => by simp at h
  | a :: l, 0, x, h => by simp [sizes]; omega
  | a :: l, i + 1, x, h => by
    have := sizes_set l i x (by simpa using h)
    simp only [List.set_cons_succ, sizes, List.getD_cons_succ]; omega
theorem setT_sizes (u : Tm) : ∀ (p : List Int) (t a : Tm), findT t p = some a → (setT t p u).size + a.size = t.size + u.size
  | [], t, a, h => by obtain rfl := Option.some.inj h; simp only [setT]; omega
  | k :: p, t, a, h => by
    simp only [findT] at h
    split at h
    · rename_i hk
      have ih := setT_sizes u p _ a h
      have hs := sizes_set t.kids k.toNat (setT (t.kids.getD k.toNat zT) p u) (by omega)
      have ht := t.size_eq
      simp only [setT, Tm.size]
      omega
    · cases h
theorem formed_set {l : List Tm} {x : Tm} (h : l.all formedT = true) (hx : formedT x = true) (i : Nat) : (l.set i x).all formedT = true := by
  rw [List.all_eq_true] at h ⊢
  intro y hy
  rcases List.mem_or_eq_of_mem_set hy with q | rfl
  · exact h y q
  · exact hx
theorem setT_formed {u : Tm} (hu : formedT u = true) : ∀ (p : List Int) (t : Tm), formedT t = true → (findT t p).isSome = true → formedT (setT t p u) = true
  | [], t, _, _ => hu
  | k :: p, t, ht, h => by
    simp only [findT] at h
    split at h
    · rename_i hk
      have hm : t.kids.getD k.toNat zT ∈ t.kids := by
        rw [List.getD_eq_getElem?_getD, List.getElem?_eq_getElem (show k.toNat < t.kids.length by omega)]
        exact List.getElem_mem _
      have ih := setT_formed hu p _ (formedT_kids ht hm) h
      have e := formedT_eq t
      rw [ht] at e
      have e2 := formedT_eq (setT t (k :: p) u)
      rw [e2]
      simp only [setT, mk_kind, mk_num, mk_kids, List.length_set]
      have e := e.symm
      rw [Bool.and_eq_true] at e ⊢
      exact ⟨e.1, formed_set e.2 ih _⟩
    · cases h

/-! what is put into what stands at a place -/
theorem at_both {t : Tm} {p q : List Int} (h : (atR t p).2 ≠ 0) : (atR t (p ++ q)).2 = (atR t p).2 := by
  unfold atR at h ⊢
  split at h
  · rename_i hc; rw [if_pos hc, if_pos hc]
  · rename_i hc
    rw [if_neg hc, if_neg hc]
    cases hf : findT t p with
    | none => rw [findT_append, hf]; rfl
    | some u => rw [hf] at h; exact absurd rfl h
theorem at_in {t : Tm} {p q : List Int} (h : (atR t p).2 = 0) : atR t (p ++ q) = atR (atR t p).1 q := by
  obtain ⟨hc, hf⟩ := at_ok h
  have hc2 := check_sub hc hf
  generalize (atR t p).1 = a at hf hc2
  unfold atR
  rw [if_neg (by omega), if_neg (by omega), findT_append, hf]
  rfl
theorem put_in {t u : Tm} {p q : List Int} (h : (atR t p).2 = 0) (h1 : (putR (atR t p).1 q u).2 = 0) (h2 : (putR t (p ++ q) u).2 = 0) : putR t p (putR (atR t p).1 q u).1 = putR t (p ++ q) u := by
  obtain ⟨hc, hf⟩ := at_ok h
  generalize (atR t p).1 = a at hf h1 ⊢
  obtain ⟨_, _, _, a4, a5⟩ := put_ok h1
  obtain ⟨b1, b2, b3, b4, b5⟩ := put_ok h2
  have hs := setT_append q u p t a hf
  rw [a5, put_is b1 a4 (by rw [hf]; rfl) (by rw [← hs]; exact b4), put_is b1 b2 b3 b4, hs]
theorem put_bad {t u : Tm} {p : List Int} (h : (atR t p).2 ≠ 0) : (putR t p u).2 ≠ 0 := by
  intro q
  obtain ⟨b1, b2, b3, b4, b5⟩ := put_ok q
  obtain ⟨a, ha⟩ := Option.isSome_iff_exists.1 b3
  rw [at_is b1 ha] at h
  exact h rfl
theorem checkT_formed {t : Tm} (h : formedT t = true) : checkT t = 0 ∨ checkT t = 4 ∨ checkT t = 5 := by
  unfold checkT
  split
  · exact .inr (.inl rfl)
  · split
    · exact .inr (.inr rfl)
    · first | exact .inl rfl | (rw [if_pos h]; exact .inl rfl)
theorem put_why {t u : Tm} {p : List Int} (h : (atR t p).2 = 0) : (putR t p u).2 = checkT u ∨ (putR t p u).2 = 4 ∨ (putR t p u).2 = 5 := by
  obtain ⟨hc, hf⟩ := at_ok h
  by_cases hu : checkT u = 0
  · have hfm := setT_formed (checkT_ok hu).2.2 p t (checkT_ok hc).2.2 (by rw [hf]; rfl)
    have := checkT_formed hfm
    unfold putR wholeT
    rw [if_neg (by omega), if_neg (by omega), if_pos (by rw [hf]; rfl)]
    split
    · exact .inr (by simp only; omega)
    · exact .inl hu.symm
  · left
    unfold putR
    rw [if_neg (by omega), if_pos hu]
theorem places {t u : Tm} {p : List Int} (h : (atR t p).2 = 0) (h2 : (putR t p u).2 = 0) :
    atR (putR t p u).1 p = (u, 0) ∧ putR (putR t p u).1 p (atR t p).1 = (t, 0) ∧ (putR t p u).1.size + (atR t p).1.size = t.size + u.size ∧ (atR t (p ++ [((atR t p).1.kids.length : Int)])).2 = 10 := by
  obtain ⟨hc, hf⟩ := at_ok h
  obtain ⟨b1, b2, b3, b4, b5⟩ := put_ok h2
  rw [at_in h]
  have hca := check_sub hc hf
  generalize (atR t p).1 = a at hf hca ⊢
  rw [b5]
  refine ⟨at_is b4 (setT_find u p t b3), ?_, setT_sizes u p t a hf, ?_⟩
  · rw [put_is b4 hca (by rw [setT_find u p t b3]; rfl) (by rw [setT_back u p t a hf]; exact hc), setT_back u p t a hf]
  · rw [at_not hca (by simp only [findT]; rw [if_neg (by omega)])]
end Go.Proofs.YtoknnfhgoikpiaaGreat

/-
  Reductions at places: step.First, Make, Do.
-/
namespace Go.Proofs.YtoknnfhgoikpiaaGreat
set_option linter.unusedSimpArgs false
set_option linter.unusedVariables false
open Go.Aw Go.RowKit
attribute [local irreducible] WL AC WD WE MStep OkOp
attribute [local irreducible] isFnT

def firstR (chk : Int) (lk : Tm → Option (Tm × Int)) (t : Tm) : Option (List Int) := if chk ≠ 0 then none else if checkT t ≠ 0 then none else placeR lk t
theorem first_spec {es : Nat} {rows : List (List AV)} {full : Bool} {chk : Int} {lk : Tm → Option (Tm × Int)} (hlk : LK es rows full chk lk) (t : Tm) (ht : t.size ≤ 1048576) : FC Tryz.prog 48 [.lst es rows full, aT t] (pathV (firstR chk lk t)) := by
  have hck := hlk.ck
  have hc := tcheck_spec t ht
  by_cases h0 : chk = 0
  · subst h0
    by_cases h1 : checkT t = 0
    · obtain ⟨c1, _, c3⟩ := checkT_ok h1
      have hf := sfind_all hlk 6000 (by omega) t c1 c3
      rw [show firstR 0 lk t = placeR lk t by unfold firstR; rw [if_neg (by omega), if_neg (by omega)]]
      rw [h1] at hc
      cases h : placeR lk t with
      | none =>
        rw [h] at hf
        refine FC_intro hty Tryz.func48 rfl rfl rfl fun w0 => ?_
        repeat' (first | exact absurd rfl ‹_› | refine WL_call 0 rfl hck rfl rfl rfl ?_ | refine WL_call 0 rfl hc rfl rfl rfl ?_ | refine WL_call 0 rfl hf rfl rfl rfl ?_ | refine WL_p hty rfl rfl ?_ | refine WL_nil ?_ | refine AC_seq ?_ | refine AC_region ?_ | refine AC_skip ?_ | refine AC_condT rfl ?_ | refine AC_condF rfl ?_ | refine AC_ret ?_ | refine WL_ung rfl rfl ?_ | refine WL_offT rfl rfl rfl ?_ | refine WL_offF rfl rfl rfl ?_ | refine WL_offU rfl rfl rfl ?_ | refine ends_bool rfl ?_ | refine WL_cmp rfl rfl rfl rfl (fun _ => ?_) (fun _ => ?_) | refine AC_cond rfl (fun _ => ?_) (fun _ => ?_))
        exact ends_wk rfl rfl (.refl _)
      | some p =>
        rw [h] at hf
        refine FC_intro hty Tryz.func48 rfl rfl rfl fun w0 => ?_
        repeat' (first | exact absurd rfl ‹_› | refine WL_call 0 rfl hck rfl rfl rfl ?_ | refine WL_call 0 rfl hc rfl rfl rfl ?_ | refine WL_call 0 rfl hf rfl rfl rfl ?_ | refine WL_p hty rfl rfl ?_ | refine WL_nil ?_ | refine AC_seq ?_ | refine AC_region ?_ | refine AC_skip ?_ | refine AC_condT rfl ?_ | refine AC_condF rfl ?_ | refine AC_ret ?_ | refine WL_ung rfl rfl ?_ | refine WL_offT rfl rfl rfl ?_ | refine WL_offF rfl rfl rfl ?_ | refine WL_offU rfl rfl rfl ?_ | refine ends_bool rfl ?_ | refine WL_cmp rfl rfl rfl rfl (fun _ => ?_) (fun _ => ?_) | refine AC_cond rfl (fun _ => ?_) (fun _ => ?_))
        exact ends_wk rfl rfl (.refl _)
    · rw [show firstR 0 lk t = none by unfold firstR; rw [if_neg (by omega), if_pos h1]]
      refine FC_intro hty Tryz.func48 rfl rfl rfl fun w0 => ?_
      repeat' (first | exact absurd rfl ‹_› | exact absurd h1 ‹_› | refine WL_call 0 rfl hck rfl rfl rfl ?_ | refine WL_call 0 rfl hc rfl rfl rfl ?_ | refine WL_p hty rfl rfl ?_ | refine WL_nil ?_ | refine AC_seq ?_ | refine AC_region ?_ | refine AC_skip ?_ | refine AC_condT rfl ?_ | refine AC_condF rfl ?_ | refine AC_ret ?_ | refine WL_ung rfl rfl ?_ | refine WL_offT rfl rfl rfl ?_ | refine WL_offF rfl rfl rfl ?_ | refine WL_offU rfl rfl rfl ?_ | refine ends_bool rfl ?_ | refine WL_cmp rfl rfl rfl rfl (fun _ => ?_) (fun _ => ?_) | refine AC_cond rfl (fun _ => ?_) (fun _ => ?_))
      exact ends_wk rfl rfl (.tup (.cons (.nilF _ _ _) (.cons (.refl _) .nil)))
  · rw [show firstR chk lk t = none by unfold firstR; rw [if_pos h0]]
    refine FC_intro hty Tryz.func48 rfl rfl rfl fun w0 => ?_
    repeat' (first | exact absurd h0 ‹_› | refine WL_call 0 rfl hck rfl rfl rfl ?_ | refine WL_p hty rfl rfl ?_ | refine WL_nil ?_ | refine AC_seq ?_ | refine AC_region ?_ | refine AC_skip ?_ | refine AC_condT rfl ?_ | refine AC_condF rfl ?_ | refine AC_ret ?_ | refine WL_ung rfl rfl ?_ | refine WL_offT rfl rfl rfl ?_ | refine WL_offF rfl rfl rfl ?_ | refine WL_offU rfl rfl rfl ?_ | refine ends_bool rfl ?_ | refine WL_cmp rfl rfl rfl rfl (fun _ => ?_) (fun _ => ?_) | refine AC_cond rfl (fun _ => ?_) (fun _ => ?_))
    exact ends_wk rfl rfl (.tup (.cons (.nilF _ _ _) (.cons (.refl _) .nil)))

def makeR (lk : Tm → Option (Tm × Int)) (t : Tm) (p : List Int) : Tm × Int := match findT t p with
  | none => (zT, 10)
  | some u => match lk u with
    | none => (zT, 10)
    | some r => if r.2 ≠ 0 then (zT, r.2) else wholeT (setT t p r.1)
theorem wholeT_size (t : Tm) : (wholeT t).1.size ≤ 6000 := by
  unfold wholeT
  split
  · have : zT.size = 1 := rfl
    simp only; omega
  · rename_i h
    exact (checkT_ok (Classical.not_not.1 h)).1
theorem makeR_size (lk : Tm → Option (Tm × Int)) (t : Tm) (p : List Int) : (makeR lk t p).1.size ≤ 6000 := by
  have hz : zT.size = 1 := rfl
  unfold makeR
  split
  · simp only; omega
  · split
    · simp only; omega
    · split
      · simp only; omega
      · exact wholeT_size _

set_option maxHeartbeats 4000000 in
theorem smake_spec {es : Nat} {rows : List (List AV)} {full : Bool} {lk : Tm → Option (Tm × Int)} (hlk : LK es rows full 0 lk) (t : Tm) (p : List Int) (ht : t.size ≤ 6000) (hfm : formedT t = true) (hp : p.length ≤ 1048576) :
    FC Tryz.prog 98 [.lst es rows full, aT t, sI p] (.tup [aT (makeR lk t p).1, .int .i64 (makeR lk t p).2]) := by
  have hf := find_spec t p (by omega) hp
  cases h : findT t p with
  | none =>
    have hr : makeR lk t p = (zT, 10) := by unfold makeR; rw [h]
    rw [h] at hf
    rw [hr]
    refine FC_intro hty Tryz.func98 rfl rfl rfl fun w0 => ?_
    repeat' (first | refine WL_call 0 rfl hf rfl rfl rfl ?_ | refine WL_p hty rfl rfl ?_ | refine WL_nil ?_ | refine AC_seq ?_ | refine AC_region ?_ | refine AC_skip ?_ | refine AC_condT rfl ?_ | refine AC_condF rfl ?_ | refine AC_ret ?_ | refine ends_bool rfl ?_ | refine WL_cmp rfl rfl rfl rfl (fun _ => ?_) (fun _ => ?_) | refine AC_cond rfl (fun _ => ?_) (fun _ => ?_))
    refine ends_wk rfl rfl (.tup (.cons (.agg ?_) (.cons (.refl _) .nil)))
    repeat' (first | exact Wks.nil | refine Wks.cons (Wk.refl _) ?_ | refine Wks.cons (Wk.full _ _ _) ?_ | refine Wks.cons (Wk.nilF _ _ _) ?_)
  | some u =>
    have hus := findT_size _ _ _ h
    have hst : ∀ x, FC Tryz.prog 97 [aT t, sI p, aT x] (aT (setT t p x)) := fun x => set_spec p t x (by omega) hp (by rw [h]; rfl)
    have hss : ∀ x, (setT t p x).size ≤ t.size + x.size := fun x => setT_size p t x (by rw [h]; rfl)
    obtain ⟨v, hrv, hl⟩ := hlk.look rfl u (by omega) (findT_formed _ _ _ h hfm)
    obtain ⟨ht1, ht2, ht3⟩ := hrv.thaw
    rw [h, Option.getD_some] at hf
    cases hk : lk u with
    | none =>
      have hr : makeR lk t p = (zT, 10) := by unfold makeR; simp only [h, hk]
      rw [hk] at hrv
      obtain rfl : v = .nilf := hrv
      rw [hr]
      refine FC_intro hty Tryz.func98 rfl rfl rfl fun w0 => ?_
      repeat' (first | refine WL_call 0 rfl hf rfl rfl rfl ?_ | refine WL_call 0 rfl hl rfl rfl rfl ?_ | (refine WL_m rfl (m_eqNil (v := .nilf) ?_ rfl ?_ hfn41 rfl) ?_; (focus rfl); (focus rfl)) | refine WL_p hty rfl rfl ?_ | refine WL_nil ?_ | refine AC_seq ?_ | refine AC_region ?_ | refine AC_skip ?_ | refine AC_condT rfl ?_ | refine AC_condF rfl ?_ | refine AC_ret ?_ | refine ends_bool rfl ?_ | refine WL_cmp rfl rfl rfl rfl (fun _ => ?_) (fun _ => ?_) | refine AC_cond rfl (fun _ => ?_) (fun _ => ?_))
      refine ends_wk rfl rfl (.tup (.cons (.agg ?_) (.cons (.refl _) .nil)))
      repeat' (first | exact Wks.nil | refine Wks.cons (Wk.refl _) ?_ | refine Wks.cons (Wk.full _ _ _) ?_ | refine Wks.cons (Wk.nilF _ _ _) ?_)
    | some r =>
      have hr : makeR lk t p = if r.2 ≠ 0 then (zT, r.2) else wholeT (setT t p r.1) := by unfold makeR; simp only [h, hk]
      have hrz := hlk.size u r (by omega) hk
      have h2 := hst r.1
      have h3 := whole_spec (setT t p r.1) (by have := hss r.1; omega)
      rw [hk] at hrv
      obtain ⟨g, xa, rfl, hxa, hfc⟩ := hrv
      rw [hr]
      refine FC_intro hty Tryz.func98 rfl rfl rfl fun w0 => ?_
      repeat' (first | refine WL_call 0 rfl hf rfl rfl rfl ?_ | refine WL_call 0 rfl hl ht1 rfl rfl ?_ | (refine WL_m rfl (m_eqNil (v := .fn (.func g) [] xa) ?_ rfl ?_ hfn41 rfl) ?_; (focus rfl); (focus rfl)) | refine WL_m rfl (m_callF 0 rfl (by simp [hxa]) rfl hfc rfl rfl rfl) ?_ | refine WL_call 0 rfl h2 rfl rfl rfl ?_ | refine WL_call 0 rfl h3 rfl rfl rfl ?_ | refine WL_p hty rfl rfl ?_ | refine WL_nil ?_ | refine AC_seq ?_ | refine AC_region ?_ | refine AC_skip ?_ | refine AC_condT rfl ?_ | refine AC_condF rfl ?_ | refine AC_ret ?_ | refine ends_bool rfl ?_ | refine WL_cmp rfl rfl rfl rfl (fun _ => ?_) (fun _ => ?_) | refine AC_cond rfl (fun _ => ?_) (fun _ => ?_))
      · rw [if_pos (by assumption)]
        refine ends_wk rfl rfl (.tup (.cons (.agg ?_) (.cons (.refl _) .nil)))
        repeat' (first | exact Wks.nil | refine Wks.cons (Wk.refl _) ?_ | refine Wks.cons (Wk.full _ _ _) ?_ | refine Wks.cons (Wk.nilF _ _ _) ?_)
      · rw [if_neg (by assumption)]
        exact ends_wk rfl rfl (.refl _)

def doR (chk : Int) (lk : Tm → Option (Tm × Int)) (t : Tm) (p : List Int) : Tm × Int := if chk ≠ 0 then (zT, chk) else if checkT t ≠ 0 then (zT, checkT t) else if (makeR lk t p).2 ≠ 0 then (zT, (makeR lk t p).2) else ((makeR lk t p).1, 0)
set_option maxHeartbeats 4000000 in
theorem do_spec {es : Nat} {rows : List (List AV)} {full : Bool} {chk : Int} {lk : Tm → Option (Tm × Int)} (hlk : LK es rows full chk lk) (t : Tm) (p : List Int) (ht : t.size ≤ 1048576) (hp : p.length ≤ 1048576) :
    FC Tryz.prog 43 [.lst es rows full, aT t, sI p] (.tup [aT (doR chk lk t p).1, .int .i64 (doR chk lk t p).2]) := by
  have hck := hlk.ck
  have hc := tcheck_spec t ht
  by_cases h0 : chk = 0
  · subst h0
    by_cases h1 : checkT t = 0
    · obtain ⟨c1, _, c3⟩ := checkT_ok h1
      have hm := smake_spec hlk t p c1 c3 hp
      have hmz := makeR_size lk t p
      have hr : doR 0 lk t p = if (makeR lk t p).2 ≠ 0 then (zT, (makeR lk t p).2) else ((makeR lk t p).1, 0) := by unfold doR; rw [if_neg (by omega), if_neg (by omega)]
      rw [h1] at hc
      rw [hr]
      generalize makeR lk t p = r at hm hmz ⊢
      have htw := twin_spec r.1 (by omega)
      refine FC_intro hty Tryz.func43 rfl rfl rfl fun w0 => ?_
      repeat' (first | exact absurd rfl ‹_› | refine WL_call 0 rfl hck rfl rfl rfl ?_ | refine WL_call 0 rfl hc rfl rfl rfl ?_ | refine WL_call 0 rfl hm rfl rfl rfl ?_ | refine WL_call 0 rfl htw rfl rfl rfl ?_ | refine WL_p hty rfl rfl ?_ | refine WL_nil ?_ | refine AC_seq ?_ | refine AC_region ?_ | refine AC_skip ?_ | refine AC_condT rfl ?_ | refine AC_condF rfl ?_ | refine AC_ret ?_ | refine ends_bool rfl ?_ | refine WL_cmp rfl rfl rfl rfl (fun _ => ?_) (fun _ => ?_) | refine AC_cond rfl (fun _ => ?_) (fun _ => ?_))
      · rw [if_pos (by assumption)]
        refine ends_wk rfl rfl (.tup (.cons (.agg ?_) (.cons (.refl _) .nil)))
        repeat' (first | exact Wks.nil | refine Wks.cons (Wk.refl _) ?_ | refine Wks.cons (Wk.full _ _ _) ?_ | refine Wks.cons (Wk.nilF _ _ _) ?_)
      · rw [if_neg (by assumption)]
        exact ends_wk rfl rfl (.refl _)
    · have hr : doR 0 lk t p = (zT, checkT t) := by unfold doR; rw [if_neg (by omega), if_pos h1]
      rw [hr]
      refine FC_intro hty Tryz.func43 rfl rfl rfl fun w0 => ?_
      repeat' (first | exact absurd rfl ‹_› | exact absurd h1 ‹_› | refine WL_call 0 rfl hck rfl rfl rfl ?_ | refine WL_call 0 rfl hc rfl rfl rfl ?_ | refine WL_p hty rfl rfl ?_ | refine WL_nil ?_ | refine AC_seq ?_ | refine AC_region ?_ | refine AC_skip ?_ | refine AC_condT rfl ?_ | refine AC_condF rfl ?_ | refine AC_ret ?_ | refine ends_bool rfl ?_ | refine WL_cmp rfl rfl rfl rfl (fun _ => ?_) (fun _ => ?_) | refine AC_cond rfl (fun _ => ?_) (fun _ => ?_))
      refine ends_wk rfl rfl (.tup (.cons (.agg ?_) (.cons (.refl _) .nil)))
      repeat' (first | exact Wks.nil | refine Wks.cons (Wk.refl _) ?_ | refine Wks.cons (Wk.full _ _ _) ?_ | refine Wks.cons (Wk.nilF _ _ _) ?_)
  · have hr : doR chk lk t p = (zT, chk) := by unfold doR; rw [if_pos h0]
    rw [hr]
    refine FC_intro hty Tryz.func43 rfl rfl rfl fun w0 => ?_
    repeat' (first | exact absurd (by assumption) h0 | exact absurd h0 ‹_› | refine WL_call 0 rfl hck rfl rfl rfl ?_ | refine WL_p hty rfl rfl ?_ | refine WL_nil ?_ | refine AC_seq ?_ | refine AC_region ?_ | refine AC_skip ?_ | refine AC_condT rfl ?_ | refine AC_condF rfl ?_ | refine AC_ret ?_ | refine ends_bool rfl ?_ | refine WL_cmp rfl rfl rfl rfl (fun _ => ?_) (fun _ => ?_) | refine AC_cond rfl (fun _ => ?_) (fun _ => ?_))
    refine ends_wk rfl rfl (.tup (.cons (.agg ?_) (.cons (.refl _) .nil)))
    repeat' (first | exact Wks.nil | refine Wks.cons (Wk.refl _) ?_ | refine Wks.cons (Wk.full _ _ _) ?_ | refine Wks.cons (Wk.nilF _ _ _) ?_)
end Go.Proofs.YtoknnfhgoikpiaaGreat

/-
  Steps over no constants; the layer's own waking.
-/
namespace Go.Proofs.YtoknnfhgoikpiaaGreat
set_option linter.unusedSimpArgs false
set_option linter.unusedVariables false
open Go.Aw Go.RowKit
def tbStepN42_5 : List (Nat × List Nat) := [(0, []), (1, [0]), (2, [0, 1]), (3, [0, 1, 2]), (4, [0, 1, 2, 3]), (5, [0, 1, 2, 3, 4]), (6, [0, 1, 2, 3, 4, 5]), (7, [0, 1, 2, 3, 4, 5, 6]), (8, [0, 1, 2, 3, 4, 5, 6, 7]), (9, [0, 1, 2, 3, 4, 5, 6, 7, 8]), (10, [0, 1, 2, 3, 4, 5, 6, 7, 8, 9]), (11, [0, 1, 2, 3, 4, 5, 6, 7, 8, 9, 10]), (12, [0, 1, 2, 3, 4, 5, 6, 7, 8, 9, 10, 11]), (13, [0, 1, 2, 3, 4, 5, 6, 7, 8, 9, 10, 11, 12]), (14, [0, 1, 2, 3, 4, 5, 6, 7, 8, 9, 10, 11, 12, 13]), (15, [0, 1, 2, 3, 4, 5, 6, 7, 8, 9, 10, 11, 12, 13, 14]), (16, [0, 1, 2, 3, 4, 5, 6, 7, 8, 9, 10, 11, 12, 13, 14, 15]), (17, [0, 1, 2, 3, 4, 5, 6, 7, 8, 9, 10, 11, 12, 13, 14, 15, 16]), (18, [0, 1, 2, 3, 4, 5, 6, 7, 8, 9, 10, 11, 12, 13, 14, 15, 16]), (19, [0, 1, 2, 3, 4, 5, 6, 7, 8, 9, 10, 11, 12, 13, 14, 15, 16]), (20, [0, 1, 2, 3, 4, 5, 6, 7, 8, 9, 10, 11, 12, 13, 14, 15, 16]), (21, [0, 1, 2, 3, 4, 5, 6, 7, 8, 9, 10, 11, 12, 13, 14, 15, 16, 19, 20]), (22, [0, 1, 2, 3, 4, 5, 6, 7, 8, 9, 10, 11, 12, 13, 14, 15, 16, 19, 20, 21]), (23, [0, 1, 2, 3, 4, 5, 6, 7, 8, 9, 10, 11, 12, 13, 14, 15, 16, 18, 19, 20, 21, 22]), (24, [0, 1, 2, 3, 4, 5, 6, 7, 8, 9, 10, 11, 12, 13, 14, 15, 16, 17, 18, 19, 20, 21, 22, 23]), (25, [0, 1, 2, 3, 4, 5, 6, 7, 8, 9, 10, 11, 12, 13, 14, 15, 16, 17, 18, 19, 20, 21, 22, 23, 24]), (26, [0, 1, 2, 3, 4, 5, 6, 7, 8, 9, 10, 11, 12, 13, 14, 15, 16, 17, 18, 19, 20, 21, 22, 23, 24, 25])]
attribute [local irreducible] WL AC WD WE MStep OkOp

def lk0 (t : Tm) : Option (Tm × Int) := match look0 t with
  | .none => none
  | .inst f u => some (instT (f.kids.getD 1 zT) (u.kids.drop 1) 0)
  | .done u => some (u, 0)
theorem lk_none (es : Nat) (full : Bool) : LK es [] full 0 lk0 where
  ck := check0_spec es full
  look := fun _ t ht hf => by
    have hlk := (look0_spec t (by omega) hf).args (xs := [.lst es [] full, aT t]) (.cons (.nilF _ _ _) (.cons (.refl _) .nil))
    refine ⟨rxAV (look0 t), ?_, hlk⟩
    unfold lk0
    cases h : look0 t with
    | none => rfl
    | inst f u =>
      obtain ⟨rfl, h5, a, hk⟩ := look0_inst h
      have hgf := formedT_kids hf (show f ∈ u.kids by rw [hk]; exact List.mem_cons_self)
      obtain ⟨x, b, hgk⟩ := kids2 (l := f.kids) (by rw [formedT_len hgf, h5]; rfl)
      have hsz := u.size_eq
      have hgs := size_le_sizes (show f ∈ u.kids by rw [hk]; exact List.mem_cons_self)
      have hb : f.kids.getD 1 zT = b := by rw [hgk]; rfl
      have hl1 := look1_spec f u b (by rw [hgk]; rfl) (by rw [hk]; simp) (by omega) (by omega)
      rw [← hb] at hl1
      exact ⟨_, _, rfl, rfl, hl1⟩
    | done u => exact ⟨_, _, rfl, rfl, done1_spec u⟩
  size := fun t u ht h => by
    unfold lk0 at h
    split at h
    · cases h
    · obtain rfl := Option.some.inj h
      exact Nat.le_trans (inst_size _ _ _) (by omega)
    · rename_i v hd
      obtain rfl := Option.some.inj h
      have := look0_done hd
      simp only; omega

def wkT : Tm := .mk 6 0 [.mk 1 0 [], .mk 9 0 [.mk 8 0 [.mk 2 0 [], .mk 2 1 [], .mk 2 2 []]]]
theorem first_w : firstR 0 lk0 wkT = some [1] := by kernel_rfl
theorem do_w : doR 0 lk0 wkT [1] = (.mk 6 0 [.mk 1 0 [], .mk 2 1 []], 0) := by kernel_rfl
theorem size_wk : wkT.size ≤ 1000 := by
  simp [wkT, Tm.size, sizes]

set_option maxHeartbeats 4000000 in
theorem wakes15_spec : FC Tryz.prog 42 [] (.bool true) := by
  have hsz := size_wk
  have h1 := first_spec (lk_none 0 true) wkT (by omega)
  rw [first_w] at h1
  have h2 := do_spec (lk_none 0 true) wkT [1] (by omega) (by simp)
  rw [do_w] at h2
  have h6 := kterm_same (.mk 6 0 [.mk 1 0 [], .mk 2 1 []]) (by simp [Tm.size, sizes])
  have u0 := ru_spec 0
  have u1 := ru_spec 1
  have u2 := ru_spec 2
  have v0 := rv_spec 0
  have t1 := rt3 8 (.mk 2 0 []) (.mk 2 1 []) (.mk 2 2 [])
  have t2 := rt1 9 (.mk 8 0 [.mk 2 0 [], .mk 2 1 [], .mk 2 2 []])
  have t3 := rt2 6 (.mk 1 0 []) (.mk 9 0 [.mk 8 0 [.mk 2 0 [], .mk 2 1 [], .mk 2 2 []]])
  have t4 := rt2 6 (.mk 1 0 []) (.mk 2 1 [])
  refine FC_intro hty Tryz.func42 rfl rfl rfl fun w0 => ?_
  repeat' (first | exact absurd rfl ‹_› | refine WL_m rfl (m_callF 0 rfl rfl rfl u0 rfl rfl rfl) ?_ | refine WL_m rfl (m_callF 0 rfl rfl rfl u1 rfl rfl rfl) ?_ | refine WL_m rfl (m_callF 0 rfl rfl rfl u2 rfl rfl rfl) ?_ | refine WL_m rfl (m_callF 0 rfl rfl rfl t1 rfl rfl rfl) ?_ | refine WL_m rfl (m_callF 0 rfl rfl rfl t2 rfl rfl rfl) ?_ | refine WL_m rfl (m_callF 0 rfl rfl rfl t3 rfl rfl rfl) ?_ | refine WL_call 0 rfl v0 rfl rfl rfl ?_ | refine WL_call 0 rfl h1 rfl rfl rfl ?_ | refine WL_call 0 rfl h2 rfl rfl rfl ?_ | (refine AC_rgA (id := 5) ?_; refine AC_less (less_sub (l := [(1, _), (2, _), (4, _), (5, _), (6, _), (7, _)]) (bl := [(6, _)]) ⟨⟨_, rfl, .inl ⟨.refl _, rfl⟩⟩, ⟨_, rfl, .inl ⟨.refl _, rfl⟩⟩, ⟨_, rfl, .inl ⟨.refl _, rfl⟩⟩, ⟨_, rfl, .inl ⟨.refl _, rfl⟩⟩, ⟨_, rfl, .inl ⟨.refl _, rfl⟩⟩, ⟨_, rfl, .inl ⟨.refl _, rfl⟩⟩, trivial⟩ ⟨⟨⟨_, rfl, .refl _⟩, rfl⟩, trivial⟩) ?_; refine AC_drawnE (id := 5) tbStepN42_5 rfl (by kernel_rfl) ?_) | refine WE_cons (.inl ⟨rfl, m_idxN (i := 0) hty rfl rfl rfl rfl rfl⟩) ?_ | refine WE_cons (.inl ⟨rfl, m_callF 0 rfl rfl rfl u1 rfl rfl rfl⟩) ?_ | refine WE_cons (.inl ⟨rfl, m_callF 0 rfl rfl rfl t4 rfl rfl rfl⟩) ?_ | refine WE_call 0 rfl v0 rfl rfl rfl ?_ | refine WE_call 0 rfl h6 rfl rfl rfl ?_ | refine WE_cons (.inl ⟨rfl, stepE_ok hty rfl rfl⟩) ?_ | refine WE_cons (.inl ⟨rfl, m_idxN hty rfl rfl rfl (by assumption) rfl⟩) ?_ | refine WE_ung rfl rfl ?_ | refine WE_offT rfl rfl rfl ?_ | refine WE_offF rfl rfl rfl ?_ | refine WE_offU rfl rfl rfl ?_ | refine WE_nil ⟨by kernel_rfl, ?_⟩ | refine WL_p hty rfl rfl ?_ | refine WL_nil ?_ | refine AC_seq ?_ | refine AC_region ?_ | refine AC_skip ?_ | refine AC_ret ?_ | refine ends_bool rfl ?_ | refine WE_cmp rfl rfl rfl rfl (fun _ => ?_) (fun _ => ?_))
  all_goals rfl
end Go.Proofs.YtoknnfhgoikpiaaGreat

/-
  Rows of numbers, read.
-/
namespace Go.Proofs.YtoknnfhgoikpiaaGreat
set_option linter.unusedSimpArgs false
set_option linter.unusedVariables false
open Go.Aw Go.RowKit

section
variable {H : Type} {enc : TypeId × Value → H} {w : World} {fuel : Nat} {cs : List Value} {d : DataW H} {ps : List MemPlace}
theorem read_is (h : DataW.trod enc Tryz.prog w 0 (fun _ => true) true fuel 64 cs = some (d, ps)) : ∃ l : List Int, CV (oldS w) w cs [sI l] ∧ l.length ≤ Rows.uptoBulk d := by
  obtain ⟨l, r2, hs⟩ := read_slice Tryz.underlying64 ce_int (by decide) (fun _ : Int => 1) (fun x => [.int .i64 x]) Rows.uptoBulk bulk_slice (fun m cs d ps hm hh => by
    obtain ⟨n, _, h2, _⟩ := read_int Tryz.underlying3 hh
    exact ⟨n, h2, one_bulk d⟩) h
  have e : (l.map fun _ : Int => 1).sum = l.length := by
    clear r2 hs
    induction l with
    | nil => rfl
    | cons a l ih => simp only [List.map_cons, List.sum_cons, ih, List.length_cons]; omega
  rw [e] at hs
  exact ⟨l, r2, hs⟩
end
end Go.Proofs.YtoknnfhgoikpiaaGreat
