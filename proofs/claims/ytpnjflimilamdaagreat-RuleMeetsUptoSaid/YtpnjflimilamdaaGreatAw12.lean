/-
  The walk over code: regions, sequences, tests, blocks, loops, returns; a function's contract out of its body's walk.
-/
import Derived.Test.YtpnjflimilamdaaGreatAw11
namespace Go.Aw
open Go.RowKit

def WL (P : Program) (w0 : B0) (nt : Nat) (ops : Array Oper) (l : List Oper) (s : AS) (K : AS → Prop) : Prop :=
  ∀ β S a w Q, SR w0 nt β S s a w → (∀ β' S' a' w' s', K s' → SR w0 nt β' S' s' a' w' → Q .normal a' w') → wpList P ops Q l a w

def AC (P : Program) (w0 : B0) (nt : Nat) (c : Code) (s : AS) (K : Exit → AS → Prop) : Prop :=
  ∀ β S a w Q, SR w0 nt β S s a w → (∀ e β' S' a' w' s', K e s' → SR w0 nt β' S' s' a' w' → Q e a' w') → c.wp P Q a w

section
variable {P : Program} {ty : Ty} {w0 : B0} {nt : Nat} {s s' : AS} {ops : Array Oper} {l : List Oper} {o : Oper} {K : AS → Prop} {C : Exit → AS → Prop}

theorem WL_nil (h : K s) : WL P w0 nt ops [] s K := fun β S a w _ hs hq => hq β S a w s h hs

theorem WL_cons (hg : o.guard = none) (h : OkOp P w0 nt o s s') (r : WL P w0 nt ops l s' K) : WL P w0 nt ops (o :: l) s K := by
  intro β S a w Q hs hq
  refine wpList_plain hg fun N hN => h β S a w N Q hs fun β' S' a' w' hs' => hN _ _ (r β' S' a' w' Q hs' hq)

theorem yield_ok {β : Bt} {S : St} {a : Act} {w : World} (hs : SR w0 nt β S s a w) {j t : Nat} {b : Bool} (hj : (ops[j]?).bind (·.dst) = some t) (ht : s.env t = some (.bool b)) : yielded ops a.tmps j = some b := by
  have h1 := hs.henv t _ ht
  unfold yielded
  rw [hj]
  simp only [Option.bind_some]
  have : t < a.tmps.size := by
    rcases Nat.lt_or_ge t a.tmps.size with q | q
    · exact q
    · rw [Array.getD_eq_getD_getElem?, Array.getElem?_eq_none q] at h1
      cases h1
  rw [Array.getD_eq_getD_getElem?, Array.getElem?_eq_getElem this] at h1
  rw [Array.getElem?_eq_getElem this]
  simp only [Option.getD_some] at h1
  generalize a.tmps[t] = v at h1
  cases h1
  rfl

theorem yield_un {β : Bt} {S : St} {a : Act} {w : World} (hs : SR w0 nt β S s a w) {j t : Nat} (hj : (ops[j]?).bind (·.dst) = some t) (ht : s.env t = some (.tup [])) : yielded ops a.tmps j = none := by
  have h1 := hs.henv t _ ht
  unfold yielded
  rw [hj]
  simp only [Option.bind_some]
  rw [Array.getD_eq_getD_getElem?] at h1
  cases q : a.tmps[t]? with
  | none => rfl
  | some v =>
    rw [q] at h1
    simp only [Option.getD_some] at h1
    cases h1
    rfl
theorem vr_undef {β : Bt} {S : St} {w : World} : VR β S w undef (.tup []) := .tup #[] [] rfl (fun j hj => by simp at hj)

theorem WL_on {j t : Nat} {b c : Bool} (hg : o.guard = some (j, b)) (hj : (ops[j]?).bind (·.dst) = some t) (ht : s.env t = some (.bool c)) (hc : c = b) (h : OkOp P w0 nt o s s') (r : WL P w0 nt ops l s' K) :
    WL P w0 nt ops (o :: l) s K := by
  intro β S a w Q hs hq
  refine wpList_step fun N hN => ?_
  rw [if_pos (by simp only [Region.wanted, hg, yield_ok hs hj ht, hc, beq_self_eq_true])]
  exact h β S a w N Q hs fun β' S' a' w' hs' => hN _ _ (r β' S' a' w' Q hs' hq)

theorem WL_off {j t : Nat} {b c : Bool} (hg : o.guard = some (j, b)) (hj : (ops[j]?).bind (·.dst) = some t) (ht : s.env t = some (.bool c)) (hc : c = !b) (hd : dOK nt o.dst = true) (r : WL P w0 nt ops l (s.put o.dst (.tup [])) K) :
    WL P w0 nt ops (o :: l) s K := by
  intro β S a w Q hs hq
  refine wpList_step fun N hN => ?_
  rw [if_neg (by simp only [Region.wanted, hg, yield_ok hs hj ht, hc]; cases b <;> decide)]
  exact hN _ _ (r β S _ w Q (hs.put hd vr_undef) hq)

/-- Behind what was not done nothing is done. -/
theorem WL_offN {j t : Nat} {b : Bool} (hg : o.guard = some (j, b)) (hj : (ops[j]?).bind (·.dst) = some t) (ht : s.env t = some (.tup [])) (hd : dOK nt o.dst = true) (r : WL P w0 nt ops l (s.put o.dst (.tup [])) K) :
    WL P w0 nt ops (o :: l) s K := by
  intro β S a w Q hs hq
  refine wpList_step fun N hN => ?_
  rw [if_neg (by simp only [Region.wanted, hg, yield_un hs hj ht]; cases b <;> decide)]
  exact hN _ _ (r β S _ w Q (hs.put hd vr_undef) hq)

/-- One state says less than another. -/
def Less (s s' : AS) : Prop := ∀ w0 nt β S a w, SR w0 nt β S s a w → ∃ β' S', SR w0 nt β' S' s' a w

theorem WL_less (h : Less s s') (r : WL P w0 nt ops l s' K) : WL P w0 nt ops l s K := by
  intro β S a w Q hs hq
  obtain ⟨β', S', hs'⟩ := h _ _ _ _ _ _ hs
  exact r β' S' a w Q hs' hq

theorem AC_less {c : Code} (h : Less s s') (r : AC P w0 nt c s' C) : AC P w0 nt c s C := by
  intro β S a w Q hs hq
  obtain ⟨β', S', hs'⟩ := h _ _ _ _ _ _ hs
  exact r β' S' a w Q hs' hq

theorem AC_region {id : Nat} (h : WL P w0 nt ops ops.toList s (C .normal)) : AC P w0 nt (.region id ops false) s C := by
  intro β S a w Q hs hq
  exact wp_region_list (h β S a w Q hs (hq .normal))

def sq (N : AS → Prop) (C : Exit → AS → Prop) : Exit → AS → Prop
  | .normal => N
  | e => C e

def bk (id : Nat) (C : Exit → AS → Prop) : Exit → AS → Prop
  | .exit id' => match Nat.beq id' id with
    | true => C .normal
    | false => C (.exit id')
  | e => C e

theorem AC_seq {x y : Code} (h : AC P w0 nt x s (sq (fun s' => AC P w0 nt y s' C) C)) : AC P w0 nt (.seq x y) s C := by
  intro β S a w Q hs hq
  refine wp_seq (h β S a w _ hs fun e β' S' a' w' s' hk hs' => ?_)
  cases e with
  | normal => exact hk β' S' a' w' Q hs' hq
  | _ => exact hq _ _ _ _ _ _ hk hs'

theorem AC_skip (h : C .normal s) : AC P w0 nt .skip s C := fun _ _ _ _ _ hs hq => wp_skip (hq _ _ _ _ _ _ h hs)
theorem AC_ret (h : C .ret s) : AC P w0 nt .ret s C := fun _ _ _ _ _ hs hq => wp_ret (hq _ _ _ _ _ _ h hs)
theorem AC_exit {id : Nat} (h : C (.exit id) s) : AC P w0 nt (.exit id) s C := fun _ _ _ _ _ hs hq => wp_exit (hq _ _ _ _ _ _ h hs)

theorem AC_cond {c : Operand} {x y : Code} {b : Bool} (hc : evO s c = some (.bool b)) (h1 : b = true → AC P w0 nt x s C) (h2 : b = false → AC P w0 nt y s C) : AC P w0 nt (.cond c x y) s C := by
  intro β S a w Q hs hq
  have hv := evO_ok hs hc
  generalize e : a.eval c = cv at hv
  cases hv
  exact wp_cond_split e (fun q => h1 q β S a w Q hs hq) (fun q => h2 q β S a w Q hs hq)

theorem AC_block {id : Nat} {c : Code} (h : AC P w0 nt c s (bk id C)) : AC P w0 nt (.block id c) s C := by
  intro β S a w Q hs hq
  refine wp_block (h β S a w _ hs fun e β' S' a' w' s' hk hs' => ?_)
  cases e with
  | exit id' =>
    simp only [Exit.inBlock]
    cases e : Nat.beq id' id with
    | true =>
      have hk : C .normal s' := by have := hk; simp only [bk, e] at this; exact this
      rw [if_pos (Nat.eq_of_beq_eq_true e)]; exact hq _ _ _ _ _ _ hk hs'
    | false =>
      have hk : C (.exit id') s' := by have := hk; simp only [bk, e] at this; exact this
      have : ¬ id' = id := fun q => by rw [q, Nat.beq_refl] at e; cases e
      rw [if_neg this]; exact hq _ _ _ _ _ _ hk hs'
  | _ => exact hq _ _ _ _ _ _ hk hs'

/-- A loop: at each round's head the state is one of a family; each round lowers a number. -/
theorem AC_loop {ι : Type} {c : Code} (mk : ι → AS) (I : ι → Prop) (μ : ι → Nat) (i0 : ι) (h0 : Less s (mk i0)) (hI : I i0)
    (h : ∀ i, I i → AC P w0 nt c (mk i) (sq (fun s' => ∃ j, I j ∧ μ j < μ i ∧ Less s' (mk j)) C)) : AC P w0 nt (.loop c) s C := by
  intro β S a w Q hs hq b k cs
  have key : ∀ n i, μ i = n → I i → ∀ β S a w, SR w0 nt β S (mk i) a w → ∃ e a' w', Q e a' w' ∧ Arrives P (lone (b.at a (.code c :: .inLoop c :: k)) cs w) b k cs e a' w' := by
    intro n
    induction n using Nat.strongRecOn with
    | _ n ih =>
      intro i hn hi β S a w hs
      obtain ⟨e, a₁, w₁, hk, harr⟩ := h i hi β S a w (fun e a' w' => match e with | .normal => ∃ j, I j ∧ μ j < μ i ∧ ∃ β' S', SR w0 nt β' S' (mk j) a' w' | e => Q e a' w') hs (fun e β' S' a' w' s' hk hs' => by
        cases e with
        | normal =>
          obtain ⟨j, q1, q2, q3⟩ := hk
          obtain ⟨β2, S2, q4⟩ := q3 _ _ _ _ _ _ hs'
          exact ⟨j, q1, q2, β2, S2, q4⟩
        | _ => exact hq _ _ _ _ _ _ hk hs') b (.inLoop c :: k) cs
      cases e with
      | normal =>
        obtain ⟨j, q1, q2, β2, S2, q3⟩ := hk
        obtain ⟨e₂, a₂, w₂, hq₂, harr₂⟩ := ih (μ j) (hn ▸ q2) j rfl q1 β2 S2 a₁ w₁ q3
        exact ⟨e₂, a₂, w₂, hq₂, .of_steps (Steps.trans harr (.one step_inLoop)) harr₂⟩
      | exit id => exact ⟨_, a₁, w₁, hk, .pass (x := .inLoop c) rfl (fun _ _ => .inl (by simp)) harr⟩
      | goto l => exact ⟨_, a₁, w₁, hk, .pass (x := .inLoop c) rfl (fun _ _ => .inl (by simp)) harr⟩
      | ret => exact ⟨_, a₁, w₁, hk, .pass (x := .inLoop c) rfl (fun _ _ => .inl (by simp)) harr⟩
      | panic ch => exact ⟨_, a₁, w₁, hk, .pass (x := .inLoop c) rfl (fun _ _ => .inl (by simp)) harr⟩
      | outgrown => exact ⟨_, a₁, w₁, hk, .pass (x := .inLoop c) rfl (fun _ _ => .inl (by simp)) harr⟩
  obtain ⟨β2, S2, hs2⟩ := h0 _ _ _ _ _ _ hs
  obtain ⟨e, a', w', hq', harr⟩ := key _ i0 rfl hI β2 S2 a w hs2
  exact ⟨e, a', w', hq', .of_steps (.one step_loop) harr⟩

/-! what is handed back -/
def resOne (ty : Ty) (s : AS) : ResultVar → Option AV
  | .tmp t => s.env t
  | .cell a t => match s.env a, ty t with
    | some p, some i => match i.desc.isAgg, behind s.blk i.size p with
      | true, some cs => match Nat.beq cs.length i.size with
        | true => match forceL cs with
          | some cs' => some (.agg cs')
          | none => none
        | false => none
      | false, some [v] => some v
      | _, _ => none
    | _, _ => none

def resL (ty : Ty) (s : AS) : List ResultVar → Option (List AV)
  | [] => some []
  | r :: l => match resOne ty s r, resL ty s l with
    | some v, some vs => some (v :: vs)
    | _, _ => none

def resF (tmps : Array Value) : ResultVar → Sem Value
  | .tmp t => pure (tmps.getD t undef)
  | .cell a t => do loadVar t (← asAddr (tmps.getD a undef))

theorem results_eq (fn : Func) (tmps : Array Value) : results fn tmps = (do let vs ← fn.results.mapM (resF tmps); pure (if h : vs.size = 1 then vs[0] else .tuple vs)) := by
  unfold results
  congr 2

theorem resOne_ok (hty : TyOK P ty) {β : Bt} {S : St} {a : Act} {w : World} (hs : SR w0 nt β S s a w) {r : ResultVar} {v : AV} (h : resOne ty s r = some v) :
    ∃ u, (resF a.tmps r).run P w = .ok u w ∧ VR β S w u v := by
  cases r with
  | tmp t => exact ⟨_, rfl, hs.henv t v h⟩
  | cell ad t =>
    simp only [resOne] at h
    split at h
    · rename_i p i e1 e2
      have hp := hs.henv ad p e1
      obtain ⟨ci, _, _, hI⟩ := hty.get e2
      split at h
      · rename_i cs hag hb
        split at h
        · rename_i hl
          have hl := Nat.eq_of_beq_eq_true hl
          split at h
          · rename_i cs' hfc
            obtain rfl := Option.some.inj h
            obtain rfl := forceL_eq hfc
            obtain ⟨b, o, hv, hc⟩ := behind_ok hs hp hb
            have hagg := run_isAgg (w := w) hI
            rw [hag] at hagg
            have hf : ∃ f : Nat → Value, ∀ j, j < cs.length → w.cell? ⟨b, o + j, none⟩ = some (f j) ∧ (f j).oneCell' = true ∧ VR β S w (f j) (cs.getD j .any) :=
              ⟨fun j => if h : j < cs.length then (hc j h).choose else undef, fun j hj => by simp only [hj, dif_pos]; exact (hc j hj).choose_spec⟩
            obtain ⟨f, hf⟩ := hf
            have hld := run_loadCells (P := P) w ⟨b, o, none⟩ ci.size f (fun j hj => by rw [addr_add]; exact (hf j (by rw [hl, ← hI.size]; exact hj)).1)
            refine ⟨.agg ((List.range ci.size).map f).toArray, ?_, ?_⟩
            · simp [resF, hv, asAddr, loadVar, hagg, sizeOf, typeInfo, hI.info, hld]
            · refine .agg _ _ (by simp [hl, hI.size]) (fun j hj => ?_) (fun j hj => ?_)
              · have e1 : (((List.range ci.size).map f).toArray).getD j undef = f j := by simp [Array.getD, hI.size, ← hl, hj]
                rw [e1]; exact (hf j hj).2.2
              · have := (hf j hj).2.1
                simp [Array.getD, hI.size, ← hl, hj, this]
          · cases h
        · cases h
      · rename_i v' hag hb
        obtain rfl := Option.some.inj h
        obtain ⟨b, o, hv, hc⟩ := behind_ok hs hp hb
        obtain ⟨c, h1, _, h3⟩ := hc 0 (by simp)
        have hagg := run_isAgg (w := w) hI
        rw [hag] at hagg
        rw [Nat.add_zero] at h1
        exact ⟨c, by simp [resF, hv, asAddr, loadVar, hagg, h1], h3⟩
      · cases h
    · cases h

theorem resL_ok (hty : TyOK P ty) {β : Bt} {S : St} {a : Act} {w : World} (hs : SR w0 nt β S s a w) : ∀ {rs : List ResultVar} {vs : List AV}, resL ty s rs = some vs →
    ∃ us : List Value, (rs.mapM (resF a.tmps)).run P w = .ok us w ∧ us.length = vs.length ∧
      ∀ j, j < vs.length → VR β S w (us.getD j undef) (vs.getD j .any)
  | [], vs, h => by obtain rfl := Option.some.inj h; exact ⟨[], rfl, rfl, fun j hj => by simp at hj⟩
  | r :: l, vs, h => by
    simp only [resL] at h
    split at h
    · rename_i v vs' e1 e2
      obtain rfl := Option.some.inj h
      obtain ⟨u, h1, h2⟩ := resOne_ok hty hs e1
      obtain ⟨us, h3, h4, h5⟩ := resL_ok hty hs e2
      refine ⟨u :: us, ?_, by simp [h4], fun j hj => ?_⟩
      · rw [List.mapM_cons]
        simp only [Sem.run_bind, h1, Result.andThen_ok, h3, Sem.run_pure]
      · cases j with
        | zero => simpa using h2
        | succ j => simpa using h5 j (by simpa using hj)
    · cases h

/-- What is handed back, as the caller sees it. -/
def pack1 (blk : Bk) : AV → Option AV
  | .arr id => match blk id with
    | some (.ar none e es rows wr) => some (.own e es rows wr)
    | some (.ro _ es rows) => some (.lst es rows false)
    | _ => none
  | x => match argV blk x with
    | some y => match isOwn y with
      | true => none
      | false => some y
    | none => none

def packs (blk : Bk) : List AV → Option (List AV)
  | [] => some []
  | x :: l => match pack1 blk x, packs blk l with
    | some y, some r => some (y :: r)
    | _, _ => none

def arrId : AV → Option Nat
  | .arr id => some id
  | _ => none

def apartIds : List AV → Bool
  | [] => true
  | x :: l => (match arrId x with | some i => l.all (fun y => match arrId y with | some j => !(Nat.beq i j) | none => true) | none => true) && apartIds l

def packR (blk : Bk) : List AV → Option AV
  | [x] => pack1 blk x
  | l => match packs blk l, apartIds l with
    | some ys, true => some (.tup ys)
    | _, _ => none

end
end Go.Aw
