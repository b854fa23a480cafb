/-
  A function's contract out of its body's walk.
-/
import Derived.Test.YtpnjflimilamdaaGreatAw12
namespace Go.Aw
open Go.RowKit

theorem argV_notOwn {blk : Bk} {x y : AV} (h : argV blk x = some y) (ho : isOwn y = true) : False := by
  have hS : ∀ {x y}, argS blk x = some y → isOwn y = true → False := by
    intro x y h ho
    cases x <;> simp only [argS] at h <;> (split at h) <;> first
      | (cases h; done)
      | (obtain rfl := Option.some.inj h
         first
           | (simp [isOwn] at ho; done)
           | (rename_i hc; simp [closedS, closed0] at hc))
  cases x <;> simp only [argV] at h <;> first
    | exact hS h ho
    | (split at h
       · obtain rfl := Option.some.inj h; simp [isOwn] at ho
       · cases h)

def blkOf (β : Bt) : AV → Nat
  | .arr id => match β id with
    | some bi => bi.b
    | none => 0
  | _ => 0

theorem pack1_ok {w0 : B0} {w : World} {β : Bt} {S : St} {blk : Bk} (hw0 : ∀ b, ¬ w0.old b → w0.w.heap.size ≤ b) (h : HR w0 β S blk w) {v : Value} {x y : AV} (hv : VR β S w v x) (hp : pack1 blk x = some y) : RV1 S w0.w w v (blkOf β x) y := by
  by_cases e : ∃ id, x = .arr id
  · obtain ⟨id, rfl⟩ := e
    simp only [pack1] at hp
    split at hp
    · rename_i e es rows wr hk
      obtain rfl := Option.some.inj hp
      cases hv
      rename_i bi hbi
      obtain ⟨bi2, e1, h2, h3⟩ := h.hblk id _ hk
      rw [hbi] at e1
      obtain rfl := Option.some.inj e1
      refine ⟨bi, ?_, rfl, hw0 _ (h3 rfl), h2⟩
      simp [blkOf, hbi]
    · rename_i hk
      obtain rfl := Option.some.inj hp
      exact closed0_nb rfl (arr_lst (pin := none) h (.inr hk) hv)
    · cases hp
  · have hp' : ∃ z, argV blk x = some z ∧ isOwn z = false ∧ z = y := by
      cases x <;> simp only [pack1] at hp <;> first
        | exact absurd ⟨_, rfl⟩ e
        | (split at hp
           · rename_i z hz
             split at hp
             · cases hp
             · exact ⟨z, hz, by assumption, Option.some.inj hp⟩
           · cases hp)
    obtain ⟨z, h1, h2, rfl⟩ := hp'
    have := argV_ok h hv h1
    cases z <;> first | exact this | simp [isOwn] at h2

theorem pack1_own {blk : Bk} {x y : AV} (hp : pack1 blk x = some y) (ho : isOwn y = true) : ∃ id e es rows wr, x = .arr id ∧ blk id = some (.arr e es rows wr) := by
  by_cases e : ∃ id, x = .arr id
  · obtain ⟨id, rfl⟩ := e
    simp only [pack1] at hp
    split at hp
    · exact ⟨_, _, _, _, _, rfl, by assumption⟩
    · obtain rfl := Option.some.inj hp; simp [isOwn] at ho
    · cases hp
  · exfalso
    cases x <;> simp only [pack1] at hp <;> first
      | exact absurd ⟨_, rfl⟩ e
      | (split at hp
         · split at hp
           · cases hp
           · rename_i hz _ hi; obtain rfl := Option.some.inj hp; rw [hi] at ho; cases ho
         · cases hp)

theorem packs_ok {blk : Bk} : ∀ {xs ys : List AV}, packs blk xs = some ys → ys.length = xs.length ∧ ∀ j, j < xs.length → pack1 blk (xs.getD j .any) = some (ys.getD j .any)
  | [], ys, h => by obtain rfl := Option.some.inj h; exact ⟨rfl, fun j hj => by simp at hj⟩
  | x :: l, ys, h => by
    simp only [packs] at h
    split at h
    · rename_i y r e1 e2
      obtain rfl := Option.some.inj h
      obtain ⟨h1, h2⟩ := packs_ok e2
      refine ⟨by simp [h1], fun j hj => ?_⟩
      cases j with
      | zero => simpa using e1
      | succ j => simpa using h2 j (by simpa using hj)
    · cases h

theorem apart_ok : ∀ {xs : List AV}, apartIds xs = true → ∀ i j a b, i < j → j < xs.length → xs.getD i .any = .arr a → xs.getD j .any = .arr b → a ≠ b
  | [], _, i, j, a, b, _, hj, _, _ => by simp at hj
  | x :: l, h, i, j, a, b, hij, hj, hi, hjv => by
    simp only [apartIds, Bool.and_eq_true] at h
    cases j with
    | zero => omega
    | succ j =>
      have hj' : j < l.length := by simpa using hj
      have hjv' : l.getD j .any = .arr b := by simpa using hjv
      cases i with
      | zero =>
        have : x = .arr a := by simpa using hi
        subst this
        have h1 := h.1
        simp only [arrId] at h1
        have := all_getD (p := fun y => match arrId y with | some j => !(Nat.beq a j) | none => true) h1 hj'
        rw [hjv'] at this
        simp only [arrId] at this
        intro e
        subst e
        simp at this
      | succ i => exact apart_ok h.2 i j a b (by omega) hj' (by simpa using hi) hjv'

theorem vr_notOwn {β : Bt} {S : St} {w : World} {v : Value} {x : AV} (h : VR β S w v x) : isOwn x = false := by cases h <;> rfl
theorem vr_rv1 {S : St} {w w' : World} {v : Value} {b : Nat} {x : AV} (h : VR nb S w' v x) : RV1 S w w' v b x := by
  have := vr_notOwn h
  cases x <;> first | exact h | simp [isOwn] at this

theorem packR_ok {w0 : B0} {w : World} {β : Bt} {S : St} {blk : Bk} (hw0 : ∀ b, ¬ w0.old b → w0.w.heap.size ≤ b) (h : HR w0 β S blk w) {vs : List AV} {us : List Value} {res : AV} (hl : us.length = vs.length) (hv : ∀ j, j < vs.length → VR β S w (us.getD j undef) (vs.getD j .any))
    (hp : packR blk vs = some res) : RV S w0.w w (if h : us.toArray.size = 1 then us.toArray[0] else .tuple us.toArray) res := by
  have multi : (∀ x, vs ≠ [x]) → RV S w0.w w (.tuple us.toArray) res := by
    intro hne
    have hp' : ∃ ys, packs blk vs = some ys ∧ apartIds vs = true ∧ res = .tup ys := by
      match vs, hp, hne with
      | [], hp, _ => exact ⟨[], rfl, rfl, (Option.some.inj hp).symm⟩
      | [x], _, hne => exact absurd rfl (hne x)
      | x :: y :: l, hp, _ =>
        simp only [packR] at hp
        split at hp
        · exact ⟨_, by assumption, by assumption, (Option.some.inj hp).symm⟩
        · cases hp
    obtain ⟨ys, h1, h2, rfl⟩ := hp'
    obtain ⟨h3, h4⟩ := packs_ok h1
    refine ⟨us.toArray, fun j => blkOf β (vs.getD j .any), rfl, by simp [hl, h3], fun j hj => ?_, fun i j hij hj oi oj => ?_⟩
    · have := pack1_ok hw0 h (hv j (by omega)) (h4 j (by omega))
      rw [← getD_toList, List.toList_toArray]; exact this
    · obtain ⟨a, e1, es1, r1, w1, ha, hka⟩ := pack1_own (h4 i (by omega)) oi
      obtain ⟨b, e2, es2, r2, w2, hb, hkb⟩ := pack1_own (h4 j (by omega)) oj
      have hab := apart_ok h2 i j a b hij (by omega) ha hb
      obtain ⟨ba, p1, _, _⟩ := h.hblk a _ hka
      obtain ⟨bb, p2, _, _⟩ := h.hblk b _ hkb
      have := h.hinj a b ba bb _ _ hab hka rfl hkb rfl p1 p2
      show blkOf β (vs.getD i .any) ≠ blkOf β (vs.getD j .any)
      rw [ha, hb]
      simp only [blkOf, p1, p2]
      exact this
  by_cases hone : ∃ x, vs = [x]
  · obtain ⟨x, rfl⟩ := hone
    match us, hl with
    | [u], _ =>
      have hu : VR β S w u x := by simpa using hv 0 (by simp)
      have := pack1_ok hw0 h hu (show pack1 blk x = some res from hp)
      have e : RV S w0.w w u res := by
        cases res with
        | tup xs =>
          cases this with
          | tup cs _ h1 h3 =>
            refine ⟨cs, fun _ => 0, rfl, h1, fun j hj => vr_rv1 (h3 j hj), fun i j hij hj oi _ => ?_⟩
            have hj : j < xs.length := hj
            have hij : i < j := hij
            exact absurd (vr_notOwn (h3 i (Nat.lt_trans hij hj))) (by rw [oi]; decide)
        | _ => exact ⟨_, this⟩
      simpa using e
  · have hne : ¬ us.toArray.size = 1 := by
      intro e
      have hlen : vs.length = 1 := by rw [← hl]; simpa using e
      obtain ⟨x, hx⟩ := List.length_eq_one_iff.1 hlen
      exact hone ⟨x, hx⟩
    rw [dif_neg hne]
    exact multi (fun x e => hone ⟨x, e⟩)

section
variable {P : Program} {ty : Ty}

theorem PC_intro (hty : TyOK P ty) {f : Nat} {fn : Func} {c : Code} {args : List AV} {res : AV} (hf : P.funcs[f]? = some fn) (hb : fn.body = some c) (hn : Nat.ble args.length fn.ntmps = true)
    (h : ∀ w0 : B0, AC P w0 fn.ntmps c ⟨fun t => args[t]?, fun _ => none⟩ (fun e s' => (e = .ret ∨ e = .normal) ∧ ∃ vs, resL ty s' fn.results.toList = some vs ∧ packR s'.blk vs = some res)) : PC P f args res := by
  intro w S0 ca hS hsz hca
  have hn := Nat.le_of_ble_eq_true hn
  refine calls_of_wp hf hb (h ⟨w, S0, (· < w.heap.size), fun _ h => h⟩ nb S0 _ _ _ ⟨⟨fun id k q => (by cases q), fun id bi q => (by cases q), fun i j bi bj ki kj _ q => (by cases q), fun b o q => q, fun b o q _ => q, hS, BelowP.refl _ _⟩, ?_, ?_, rfl⟩ ?_)
  · intro t x hx
    have hlt : t < args.length := (List.getElem?_eq_some_iff.1 hx).1
    have := hca t hlt
    have hx' : args[t]? = some x := hx
    have e1 : args.getD t .any = x := by rw [List.getD_eq_getElem?_getD, hx']; rfl
    have e2 : (ca ++ Array.replicate (fn.ntmps - ca.size) undef).getD t undef = ca.getD t undef := by
      simp only [Array.getD_eq_getD_getElem?]
      rw [Array.getElem?_append_left (by omega)]
    rw [e1] at this
    simp only [e2]
    exact this
  · simp only [Array.size_append, Array.size_replicate]; omega
  · intro e β' S' a' w' s' hk hs'
    obtain ⟨he, vs, h1, h2⟩ := hk
    obtain ⟨us, h3, h4, h5⟩ := resL_ok hty hs' h1
    have hres : (results fn a'.tmps).run P w' = .ok (if h : us.toArray.size = 1 then us.toArray[0] else .tuple us.toArray) w' := by
      rw [results_eq, Array.mapM_eq_mapM_toList]
      simp only [Sem.run_bind, Sem.run_map, h3, Result.andThen_ok, Sem.run_pure]
    have hpost : a'.defers = [] ∧ ∃ v, (results fn a'.tmps).run P w' = .ok v w' ∧ ∃ v2 S2, Ending.returned v = Ending.returned v2 ∧ Below w.heap.size w w' ∧ (∀ b o, S0 b o → S2 b o) ∧ (∀ b o, S2 b o → b < w.heap.size → S0 b o) ∧ (∀ b o, S2 b o → b < w'.heap.size) ∧ RV S2 w w' v2 res :=
      ⟨hs'.hdefers, _, hres, _, S', rfl, hs'.hh.hbelow.below, hs'.hh.hold, hs'.hh.hnew, hs'.hh.hlt, packR_ok (fun b hb => Nat.le_of_not_lt hb) hs'.hh h4 h5 h2⟩
    rcases he with rfl | rfl
    · exact hpost
    · exact hpost

end
end Go.Aw
