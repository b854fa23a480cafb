/-
  Regions whose order is drawn: what is done by then is a set of the operations that holds with each what must come before it; the state is a function of that set.
-/
import Derived.Test.YtpnjflimilamdaaGreatAw17
import Derived.Orders
namespace Go.Aw
open Go.RowKit

structure Ent where
  d : Option Nat
  v : AV
  bs : List (Nat × AB)

def Ent.on (s : AS) (e : Ent) : AS := s.eff e.d e.v e.bs

def actF (D : Nat → Bool) : Nat → List Ent → AS → AS
  | _, [], s => s
  | k, e :: l, s => actF D (k + 1) l (match D k with | true => e.on s | false => s)

def isE (u : Nat) (e : Ent) : Bool := match e.d with
  | some d => Nat.beq d u
  | none => false
def isB (i : Nat) (e : Ent) : Bool := e.bs.any fun p => Nat.beq p.1 i

theorem isE_not {u : Nat} {e : Ent} (h : isE u e = false) : e.d ≠ some u := by
  intro q
  simp only [isE, q] at h
  rw [Nat.beq_refl] at h
  cases h
theorem isE_yes {u : Nat} {e : Ent} (h : isE u e = true) : e.d = some u := by
  unfold isE at h
  split at h
  · rename_i d hd; rw [hd, Nat.eq_of_beq_eq_true h]
  · cases h

theorem on_env_not {s : AS} {e : Ent} {u : Nat} (h : isE u e = false) : (e.on s).env u = s.env u := by
  have := isE_not h
  unfold Ent.on AS.eff AS.put putE
  cases hd : e.d with
  | none => rfl
  | some d => exact upd_other _ _ (fun q => this (by rw [hd, q]))
theorem on_env_yes {s : AS} {e : Ent} {u : Nat} (h : isE u e = true) : (e.on s).env u = some e.v := by
  have := isE_yes h
  unfold Ent.on AS.eff AS.put putE
  rw [this]
  exact upd_same _ _ _
theorem on_blk {s : AS} {e : Ent} : (e.on s).blk = setBs s.blk e.bs := by
  unfold Ent.on AS.eff AS.put
  rfl
theorem isB_not {i : Nat} {e : Ent} (h : isB i e = false) : ∀ p ∈ e.bs, p.1 ≠ i := by
  intro p hp q
  have : e.bs.any (fun p => Nat.beq p.1 i) = true := List.any_eq_true.2 ⟨p, hp, by rw [q, Nat.beq_refl]⟩
  unfold isB at h
  rw [this] at h
  cases h
theorem on_blk_not {s : AS} {e : Ent} {i : Nat} (h : isB i e = false) : (e.on s).blk i = s.blk i := by
  rw [on_blk]; exact setBs_other (isB_not h)

theorem setBs_same {b c : Bk} {i : Nat} : ∀ {l : List (Nat × AB)}, (b i = c i ∨ l.any (fun p => Nat.beq p.1 i) = true) → setBs b l i = setBs c l i
  | [], h => by
    rcases h with h | h
    · exact h
    · simp at h
  | (j, k) :: l, h => by
    simp only [setBs]
    refine setBs_same ?_
    by_cases e : i = j
    · subst e; exact .inl (by rw [upd_same, upd_same])
    · rcases h with h | h
      · exact .inl (by rw [upd_other _ _ e, upd_other _ _ e]; exact h)
      · simp only [List.any_cons, Bool.or_eq_true] at h
        rcases h with h | h
        · exact absurd (Nat.eq_of_beq_eq_true h).symm e
        · exact .inr h

/-! place by place -/
theorem env_same {u : Nat} {D D' : Nat → Bool} : ∀ (l : List Ent) (k : Nat) (s s' : AS), s.env u = s'.env u → (∀ m e, l[m]? = some e → isE u e = true → D (k + m) = D' (k + m)) → (actF D k l s).env u = (actF D' k l s').env u
  | [], _, s, s', h, _ => h
  | e :: l, k, s, s', h, hD => by
    simp only [actF]
    refine env_same l (k + 1) _ _ ?_ (fun m e' h1 h2 => by have := hD (m + 1) e' (by simpa using h1) h2; rwa [← Nat.add_assoc, Nat.add_right_comm] at this)
    cases q : isE u e with
    | true =>
      have := hD 0 e rfl q
      simp only [Nat.add_zero] at this
      rw [this]
      cases D' k
      · exact h
      · simp only; rw [on_env_yes q, on_env_yes q]
    | false =>
      have e1 : ∀ (s : AS) (b : Bool), (match b with | true => e.on s | false => s).env u = s.env u := fun s b => by
        cases b
        · rfl
        · exact on_env_not q
      rw [e1, e1]; exact h

theorem blk_same {i : Nat} {D D' : Nat → Bool} : ∀ (l : List Ent) (k : Nat) (s s' : AS), s.blk i = s'.blk i → (∀ m e, l[m]? = some e → isB i e = true → D (k + m) = D' (k + m)) → (actF D k l s).blk i = (actF D' k l s').blk i
  | [], _, s, s', h, _ => h
  | e :: l, k, s, s', h, hD => by
    simp only [actF]
    refine blk_same l (k + 1) _ _ ?_ (fun m e' h1 h2 => by have := hD (m + 1) e' (by simpa using h1) h2; rwa [← Nat.add_assoc, Nat.add_right_comm] at this)
    cases q : isB i e with
    | true =>
      have := hD 0 e rfl q
      simp only [Nat.add_zero] at this
      rw [this]
      cases D' k
      · exact h
      · simp only; rw [on_blk, on_blk]; exact setBs_same (.inl h)
    | false =>
      have e1 : ∀ (s : AS) (b : Bool), (match b with | true => e.on s | false => s).blk i = s.blk i := fun s b => by
        cases b
        · rfl
        · exact on_blk_not q
      rw [e1, e1]; exact h

/-- The last writer's word. -/
theorem env_last {u i : Nat} {e : Ent} {D : Nat → Bool} (hE : isE u e = true) (hi : D i = true) : ∀ (l : List Ent) (k : Nat) (s : AS), k ≤ i → l[i - k]? = some e → (∀ m e', l[m]? = some e' → i < k + m → isE u e' = true → D (k + m) = false) → (actF D k l s).env u = some e.v
  | [], _, s, _, h, _ => by simp at h
  | e0 :: l, k, s, hk, h, hD => by
    simp only [actF]
    by_cases q : k = i
    · subst q
      rw [Nat.sub_self] at h
      obtain rfl := Option.some.inj h
      rw [hi]
      simp only
      have e1 : (actF (fun _ => false) (k + 1) l (e0.on s)).env u = (e0.on s).env u := by
        have : ∀ (l : List Ent) (k : Nat) (s : AS), actF (fun _ => false) k l s = s := fun l => by
          induction l with
          | nil => intro _ _; rfl
          | cons a l ih => intro k s; simp only [actF]; exact ih _ _
        rw [this]
      rw [env_same (D' := fun _ => false) l (k + 1) _ _ rfl (fun m e' h1 h2 => by
        have := hD (m + 1) e' (by simpa using h1) (by omega) h2
        rwa [← Nat.add_assoc, Nat.add_right_comm] at this), e1, on_env_yes hE]
    · refine env_last hE hi l (k + 1) _ (by omega) ?_ (fun m e' h1 h2 h3 => ?_)
      · have : i - k = (i - (k + 1)) + 1 := by omega
        rw [this] at h
        simpa using h
      · have := hD (m + 1) e' (by simpa using h1) (by omega) h3
        rwa [← Nat.add_assoc, Nat.add_right_comm] at this

theorem blk_last {u i : Nat} {e : Ent} {D : Nat → Bool} (hE : isB u e = true) (hi : D i = true) : ∀ (l : List Ent) (k : Nat) (s : AS), k ≤ i → l[i - k]? = some e → (∀ m e', l[m]? = some e' → i < k + m → isB u e' = true → D (k + m) = false) → ∀ c : Bk, (actF D k l s).blk u = setBs c e.bs u
  | [], _, s, _, h, _ => by simp at h
  | e0 :: l, k, s, hk, h, hD => by
    intro c
    simp only [actF]
    by_cases q : k = i
    · subst q
      rw [Nat.sub_self] at h
      obtain rfl := Option.some.inj h
      rw [hi]
      simp only
      have e1 : (actF (fun _ => false) (k + 1) l (e0.on s)).blk u = (e0.on s).blk u := by
        have : ∀ (l : List Ent) (k : Nat) (s : AS), actF (fun _ => false) k l s = s := fun l => by
          induction l with
          | nil => intro _ _; rfl
          | cons a l ih => intro k s; simp only [actF]; exact ih _ _
        rw [this]
      rw [blk_same (D' := fun _ => false) l (k + 1) _ _ rfl (fun m e' h1 h2 => by
        have := hD (m + 1) e' (by simpa using h1) (by omega) h2
        rwa [← Nat.add_assoc, Nat.add_right_comm] at this), e1, on_blk]
      exact setBs_same (.inr hE)
    · refine blk_last hE hi l (k + 1) _ (by omega) ?_ (fun m e' h1 h2 h3 => ?_) c
      · have : i - k = (i - (k + 1)) + 1 := by omega
        rw [this] at h
        simpa using h
      · have := hD (m + 1) e' (by simpa using h1) (by omega) h3
        rwa [← Nat.add_assoc, Nat.add_right_comm] at this

/-! what must come before -/
def pr (pt : List (List Nat)) (i j : Nat) : Bool := (pt.getD i []).any (Nat.beq j) && Nat.blt j 100000
/-- A block that number i does not count on: told in its row as 100000 and its number. -/
def hidB (pt : List (List Nat)) (i b : Nat) : Bool := (pt.getD i []).any (Nat.beq (100000 + b))

def lkE (D : Nat → Bool) (f : Nat → Option AV) (u : Nat) : List Ent → Option AV
  | [] => f u
  | e :: l => match isE u e with
    | true => match D l.length with
      | true => some e.v
      | false => none
    | false => lkE D f u l
def lkB (D : Nat → Bool) (f : Bk) (b : Nat) : List Ent → Option AB
  | [] => f b
  | e :: l => match isB b e with
    | true => match D l.length with
      | true => setBs (fun _ => none) e.bs b
      | false => none
    | false => lkB D f b l

theorem lkE_spec {D : Nat → Bool} {f : Nat → Option AV} {u : Nat} {x : AV} : ∀ {r : List Ent}, lkE D f u r = some x →
    (∃ (k : Nat) (e : Ent), r.reverse[k]? = some e ∧ isE u e = true ∧ D k = true ∧ x = e.v ∧ ∀ (m : Nat) (e' : Ent), r.reverse[m]? = some e' → k < m → isE u e' = false) ∨ (f u = some x ∧ ∀ (m : Nat) (e' : Ent), r.reverse[m]? = some e' → isE u e' = false)
  | [], h => .inr ⟨h, fun m e' q => by simp at q⟩
  | e :: l, h => by
    simp only [lkE] at h
    have hlast : (e :: l).reverse[l.length]? = some e := by simp
    have hidx : ∀ (m : Nat) (e' : Ent), (e :: l).reverse[m]? = some e' → (m < l.length ∧ l.reverse[m]? = some e') ∨ (m = l.length ∧ e' = e) := by
      intro m e' hm
      have hlt := (List.getElem?_eq_some_iff.1 hm).1
      simp only [List.length_reverse, List.length_cons] at hlt
      rw [List.reverse_cons] at hm
      by_cases q : m < l.length
      · rw [List.getElem?_append_left (by simpa using q)] at hm; exact .inl ⟨q, hm⟩
      · obtain rfl : m = l.length := by omega
        rw [List.reverse_cons] at hlast
        rw [hlast] at hm
        exact .inr ⟨rfl, (Option.some.inj hm).symm⟩
    split at h
    · rename_i q
      split at h
      · obtain rfl := Option.some.inj h
        refine .inl ⟨l.length, e, hlast, q, by assumption, rfl, fun m e' hm hlt => ?_⟩
        rcases hidx m e' hm with h1 | h1 <;> omega
      · cases h
    · rename_i q
      rcases lkE_spec h with ⟨k, e0, h1, h2, h3, h4, h5⟩ | ⟨h1, h2⟩
      · have hk : k < l.length := by have := (List.getElem?_eq_some_iff.1 h1).1; simpa using this
        refine .inl ⟨k, e0, ?_, h2, h3, h4, fun m e' hm hlt => ?_⟩
        · rw [List.reverse_cons, List.getElem?_append_left (by simpa using hk)]; exact h1
        · rcases hidx m e' hm with h6 | h6
          · exact h5 m e' h6.2 hlt
          · rw [h6.2]; exact q
      · refine .inr ⟨h1, fun m e' hm => ?_⟩
        rcases hidx m e' hm with h6 | h6
        · exact h2 m e' h6.2
        · rw [h6.2]; exact q

theorem lkB_spec {D : Nat → Bool} {f : Bk} {u : Nat} {x : AB} : ∀ {r : List Ent}, lkB D f u r = some x →
    (∃ (k : Nat) (e : Ent), r.reverse[k]? = some e ∧ isB u e = true ∧ D k = true ∧ setBs (fun _ => none) e.bs u = some x ∧ ∀ (m : Nat) (e' : Ent), r.reverse[m]? = some e' → k < m → isB u e' = false) ∨ (f u = some x ∧ ∀ (m : Nat) (e' : Ent), r.reverse[m]? = some e' → isB u e' = false)
  | [], h => .inr ⟨h, fun m e' q => by simp at q⟩
  | e :: l, h => by
    simp only [lkB] at h
    have hlast : (e :: l).reverse[l.length]? = some e := by simp
    have hidx : ∀ (m : Nat) (e' : Ent), (e :: l).reverse[m]? = some e' → (m < l.length ∧ l.reverse[m]? = some e') ∨ (m = l.length ∧ e' = e) := by
      intro m e' hm
      have hlt := (List.getElem?_eq_some_iff.1 hm).1
      simp only [List.length_reverse, List.length_cons] at hlt
      rw [List.reverse_cons] at hm
      by_cases q : m < l.length
      · rw [List.getElem?_append_left (by simpa using q)] at hm; exact .inl ⟨q, hm⟩
      · obtain rfl : m = l.length := by omega
        rw [List.reverse_cons] at hlast
        rw [hlast] at hm
        exact .inr ⟨rfl, (Option.some.inj hm).symm⟩
    split at h
    · rename_i q
      split at h
      · refine .inl ⟨l.length, e, hlast, q, by assumption, h, fun m e' hm hlt => ?_⟩
        rcases hidx m e' hm with h1 | h1 <;> omega
      · cases h
    · rename_i q
      rcases lkB_spec h with ⟨k, e0, h1, h2, h3, h4, h5⟩ | ⟨h1, h2⟩
      · have hk : k < l.length := by have := (List.getElem?_eq_some_iff.1 h1).1; simpa using this
        refine .inl ⟨k, e0, ?_, h2, h3, h4, fun m e' hm hlt => ?_⟩
        · rw [List.reverse_cons, List.getElem?_append_left (by simpa using hk)]; exact h1
        · rcases hidx m e' hm with h6 | h6
          · exact h5 m e' h6.2 hlt
          · rw [h6.2]; exact q
      · refine .inr ⟨h1, fun m e' hm => ?_⟩
        rcases hidx m e' hm with h6 | h6
        · exact h2 m e' h6.2
        · rw [h6.2]; exact q

/-- What number i can count on, whatever else is done by then ('r': what came ahead of it in the text, the last first). -/
def rst (pt : List (List Nat)) (s : AS) (r : List Ent) (i : Nat) : AS := ⟨fun u => lkE (pr pt i) s.env u r, fun b => match hidB pt i b with
  | true => none
  | false => lkB (pr pt i) s.blk b r⟩

def onAll : List Ent → AS → AS
  | [], s => s
  | e :: l, s => e.on (onAll l s)

theorem actF_none (l : List Ent) : ∀ (k : Nat) (s : AS), actF (fun _ => false) k l s = s := by
  induction l with
  | nil => intro _ _; rfl
  | cons a l ih => intro k s; simp only [actF]; exact ih _ _

theorem actF_snoc (D : Nat → Bool) (e : Ent) : ∀ (l : List Ent) (k : Nat) (s : AS), actF D k (l ++ [e]) s = match D (k + l.length) with | true => e.on (actF D k l s) | false => actF D k l s
  | [], k, s => by simp only [List.nil_append, actF, List.length_nil, Nat.add_zero]
  | a :: l, k, s => by
    simp only [List.cons_append, actF, List.length_cons]
    rw [actF_snoc D e l (k + 1)]
    rw [show k + 1 + l.length = k + (l.length + 1) by omega]

theorem onAll_eq (s : AS) : ∀ r : List Ent, actF (fun _ => true) 0 r.reverse s = onAll r s
  | [] => rfl
  | e :: l => by rw [List.reverse_cons, actF_snoc, onAll_eq s l]; rfl

def ptRow (pt : List (List Nat)) (o : Oper) (i : Nat) : Bool :=
  (pt.getD i []).all (fun j => Nat.ble 100000 j || Nat.blt j i && o.after.toList.any (fun e => Region.binds .any e && Nat.blt e.on i && (Nat.beq e.on j || pr pt e.on j))) && o.after.toList.all (fun e => !Region.binds .any e || Nat.blt e.on i)
def ptOK (pt : List (List Nat)) : Nat → List Oper → Bool
  | k, [] => (pt.drop k).all List.isEmpty
  | k, o :: l => ptRow pt o k && ptOK pt (k + 1) l

theorem ptOK_row {pt : List (List Nat)} : ∀ {l : List Oper} {k : Nat}, ptOK pt k l = true → ∀ m o, l[m]? = some o → ptRow pt o (k + m) = true
  | [], _, _, m, o, h => by simp at h
  | o0 :: l, k, h, m, o, hm => by
    simp only [ptOK, Bool.and_eq_true] at h
    cases m with
    | zero => obtain rfl := Option.some.inj hm; exact h.1
    | succ m =>
      have := ptOK_row h.2 m o (by simpa using hm)
      rwa [Nat.add_right_comm, Nat.add_assoc] at this

/-- Two that may come in either order do not meet. -/
def apartE (pt : List (List Nat)) (s : AS) (ents : List Ent) (i : Nat) (ei : Ent) (ej : Ent) : Bool :=
  (match ej.d with
   | some u => !(isE u ei) && (match (rst pt s (ents.take i).reverse i).env u with | some _ => false | none => true)
   | none => true) && ej.bs.all (fun p => !(isB p.1 ei) && (match (rst pt s (ents.take i).reverse i).blk p.1 with | some _ => false | none => true))
/-- What is new is new to all that may come before. -/
def newE (pt : List (List Nat)) (s : AS) (ents : List Ent) (i : Nat) (ei : Ent) : Bool :=
  ei.bs.all fun p => match (rst pt s (ents.take i).reverse i).blk p.1 with
    | some _ => true
    | none => (match s.blk p.1 with | some _ => false | none => true) && (ents.zipIdx.all fun q => Nat.beq q.2 i || !(isB p.1 q.1) || pr pt q.2 i)
def chk (pt : List (List Nat)) (s : AS) (ents : List Ent) : Bool :=
  ents.zipIdx.all fun p => newE pt s ents p.2 p.1 && ents.zipIdx.all fun q => !(Nat.blt p.2 q.2) || pr pt q.2 p.2 || apartE pt s ents p.2 p.1 q.1

section
variable {P : Program} {ty : Ty} {w0 : B0} {nt : Nat} {s s' : AS} {ops : Array Oper} {l : List Oper} {o : Oper} {K : AS → Prop} {C : Exit → AS → Prop} {pt : List (List Nat)} {ents : List Ent}

/-- What one operation does, under its guard. -/
def DStep (P : Program) (w0 : B0) (nt : Nat) (ops : Array Oper) (o : Oper) (r : AS) (v : AV) (bs : List (Nat × AB)) : Prop :=
  (o.guard = none ∧ MStep P w0 nt o r v bs) ∨ ∃ j b t, o.guard = some (j, b) ∧ (ops[j]?).bind (·.dst) = some t ∧ ((r.env t = some (.bool b) ∧ MStep P w0 nt o r v bs) ∨ ((r.env t = some (.bool (!b)) ∨ r.env t = some (.tup [])) ∧ v = .tup [] ∧ bs = [] ∧ dOK nt o.dst = true))

/-- 'r': what is walked already, the last first. -/
def WD (P : Program) (w0 : B0) (nt : Nat) (ops : Array Oper) (pt : List (List Nat)) (s : AS) (r : List Ent) (l : List Oper) (F : List Ent → Prop) : Prop :=
  ∃ es : List Ent, es.length = l.length ∧ (∀ k o e, l[k]? = some o → es[k]? = some e → e.d = o.dst ∧ DStep P w0 nt ops o (rst pt s ((es.take k).reverse ++ r) (r.length + k)) e.v e.bs) ∧ F (es.reverse ++ r)

theorem WD_nil {r : List Ent} {F : List Ent → Prop} (h : F r) : WD P w0 nt ops pt s r [] F := ⟨[], rfl, fun k o e h => by simp at h, h⟩

theorem WD_cons {r : List Ent} {F : List Ent → Prop} {v : AV} {bs : List (Nat × AB)} (h : DStep P w0 nt ops o (rst pt s r r.length) v bs) (q : WD P w0 nt ops pt s (⟨o.dst, v, bs⟩ :: r) l F) : WD P w0 nt ops pt s r (o :: l) F := by
  obtain ⟨es, h1, h2, h3⟩ := q
  refine ⟨⟨o.dst, v, bs⟩ :: es, by simp [h1], fun k o' e ho he => ?_, by simpa using h3⟩
  cases k with
  | zero =>
    obtain rfl := Option.some.inj ho
    obtain rfl := Option.some.inj he
    exact ⟨rfl, h⟩
  | succ k =>
    have := h2 k o' e (by simpa using ho) (by simpa using he)
    simp only [List.length_cons] at this
    rw [List.take_succ_cons, show r.length + (k + 1) = r.length + 1 + k by omega, List.reverse_cons, List.append_assoc]
    exact this

theorem chk_new (h : chk pt s ents = true) {i : Nat} {e : Ent} (hi : ents[i]? = some e) : newE pt s ents i e = true := by
  have := List.all_eq_true.1 h (e, i) (by rw [List.mem_zipIdx_iff_getElem?]; exact hi)
  simp only [Bool.and_eq_true] at this
  exact this.1
theorem chk_apart (h : chk pt s ents = true) {i j : Nat} {ei ej : Ent} (hi : ents[i]? = some ei) (hj : ents[j]? = some ej) (hlt : i < j) (hp : pr pt j i = false) : apartE pt s ents i ei ej = true := by
  have := List.all_eq_true.1 h (ei, i) (by rw [List.mem_zipIdx_iff_getElem?]; exact hi)
  simp only [Bool.and_eq_true] at this
  have := List.all_eq_true.1 this.2 (ej, j) (by rw [List.mem_zipIdx_iff_getElem?]; exact hj)
  simp only [Bool.or_eq_true, Bool.not_eq_true'] at this
  rcases this with (h1 | h1) | h1
  · have : Nat.blt i j = true := by simp [Nat.blt_eq, hlt]
    rw [h1] at this; cases this
  · rw [hp] at h1; cases h1
  · exact h1

/-- Number i's part lies in the state of each set that it may come behind. -/
theorem rst_le (hc : chk pt s ents = true) {D : Nat → Bool} {i : Nat} {ei : Ent} (hi : ents[i]? = some ei) (hD : ∀ j, pr pt i j = true → D j = true) (hni : D i = false) (hcl : ∀ m, D m = true → pr pt m i = true → D i = true) :
    (rst pt s (ents.take i).reverse i).le (actF D 0 ents s) := by
  have htk : ∀ (m : Nat) (e : Ent), ents[m]? = some e → m < i → (ents.take i).reverse.reverse[m]? = some e := fun m e h1 h2 => by
    rw [List.reverse_reverse, List.getElem?_take, if_pos h2]; exact h1
  constructor
  · intro u x hx
    have hx0 : (rst pt s (ents.take i).reverse i).env u = some x := hx
    have hlate : ∀ (m : Nat) (e : Ent), ents[m]? = some e → isE u e = true → i ≤ m → D m = false := by
      intro m e hm hE hge
      rcases Nat.eq_or_lt_of_le hge with q | q
      · rw [← q]; exact hni
      · cases qd : D m with
        | false => rfl
        | true =>
          exfalso
          have hnp : pr pt m i = false := by
            cases qp : pr pt m i with
            | false => rfl
            | true => rw [hcl m qd qp] at hni; cases hni
          have := chk_apart hc hi hm q hnp
          simp only [apartE, isE_yes hE, Bool.and_eq_true] at this
          have := this.1.2
          rw [hx0] at this
          cases this
    rcases lkE_spec (show lkE (pr pt i) s.env u (ents.take i).reverse = some x from hx) with ⟨k, e, h1, h2, h3, h4, h5⟩ | ⟨h1, h2⟩
    · have hk : k < i := by have := (List.getElem?_eq_some_iff.1 h1).1; simp at this; omega
      have he : ents[k]? = some e := by rw [List.reverse_reverse, List.getElem?_take, if_pos hk] at h1; exact h1
      rw [h4]
      refine env_last h2 (hD k h3) ents 0 s (Nat.zero_le _) (by simpa using he) (fun m e' hm hlt hE => ?_)
      rw [Nat.zero_add] at hlt ⊢
      rcases Nat.lt_or_ge m i with q | q
      · rw [h5 m e' (htk m e' hm q) hlt] at hE; cases hE
      · exact hlate m e' hm hE q
    · rw [← h1]
      have := env_same (u := u) (D := D) (D' := fun _ => false) ents 0 s s rfl (fun m e hm hE => by
        rw [Nat.zero_add]
        rcases Nat.lt_or_ge m i with q | q
        · rw [h2 m e (htk m e hm q)] at hE; cases hE
        · exact hlate m e hm hE q)
      rw [this, actF_none]
  · intro u x hx
    have hx0 : (rst pt s (ents.take i).reverse i).blk u = some x := hx
    have hlate : ∀ (m : Nat) (e : Ent), ents[m]? = some e → isB u e = true → i ≤ m → D m = false := by
      intro m e hm hE hge
      rcases Nat.eq_or_lt_of_le hge with q | q
      · rw [← q]; exact hni
      · cases qd : D m with
        | false => rfl
        | true =>
          exfalso
          have hnp : pr pt m i = false := by
            cases qp : pr pt m i with
            | false => rfl
            | true => rw [hcl m qd qp] at hni; cases hni
          have := chk_apart hc hi hm q hnp
          simp only [apartE, Bool.and_eq_true] at this
          obtain ⟨p, hp1, hp2⟩ := List.any_eq_true.1 hE
          have := List.all_eq_true.1 this.2 p hp1
          rw [Nat.eq_of_beq_eq_true hp2] at this
          simp only [Bool.and_eq_true] at this
          have := this.2
          rw [hx0] at this
          cases this
    have hx1 : lkB (pr pt i) s.blk u (ents.take i).reverse = some x := by
      have h0 : (match hidB pt i u with
        | true => none
        | false => lkB (pr pt i) s.blk u (ents.take i).reverse) = some x := hx
      split at h0
      · cases h0
      · exact h0
    rcases lkB_spec hx1 with ⟨k, e, h1, h2, h3, h4, h5⟩ | ⟨h1, h2⟩
    · have hk : k < i := by have := (List.getElem?_eq_some_iff.1 h1).1; simp at this; omega
      have he : ents[k]? = some e := by rw [List.reverse_reverse, List.getElem?_take, if_pos hk] at h1; exact h1
      rw [← h4]
      refine blk_last h2 (hD k h3) ents 0 s (Nat.zero_le _) (by simpa using he) (fun m e' hm hlt hE => ?_) _
      rw [Nat.zero_add] at hlt ⊢
      rcases Nat.lt_or_ge m i with q | q
      · rw [h5 m e' (htk m e' hm q) hlt] at hE; cases hE
      · exact hlate m e' hm hE q
    · rw [← h1]
      have := blk_same (i := u) (D := D) (D' := fun _ => false) ents 0 s s rfl (fun m e hm hE => by
        rw [Nat.zero_add]
        rcases Nat.lt_or_ge m i with q | q
        · rw [h2 m e (htk m e hm q)] at hE; cases hE
        · exact hlate m e hm hE q)
      rw [this, actF_none]

theorem rst_new (hc : chk pt s ents = true) {D : Nat → Bool} {i : Nat} {ei : Ent} (hi : ents[i]? = some ei) (hni : D i = false) (hcl : ∀ m, D m = true → pr pt m i = true → D i = true) (p : Nat × AB) (hp : p ∈ ei.bs) (hn : (rst pt s (ents.take i).reverse i).blk p.1 = none) :
    (actF D 0 ents s).blk p.1 = none := by
  have := List.all_eq_true.1 (chk_new hc hi) p hp
  rw [hn] at this
  simp only [Bool.and_eq_true] at this
  obtain ⟨h1, h2⟩ := this
  have h3 : s.blk p.1 = none := by
    cases q : s.blk p.1 with
    | none => rfl
    | some k => rw [q] at h1; cases h1
  have e1 : (actF (fun _ => false) 0 ents s).blk p.1 = s.blk p.1 := by
    have : ∀ (l : List Ent) (k : Nat) (s : AS), actF (fun _ => false) k l s = s := fun l => by
      induction l with
      | nil => intro _ _; rfl
      | cons a l ih => intro k s; simp only [actF]; exact ih _ _
    rw [this]
  rw [← h3, ← e1]
  refine blk_same ents 0 s s rfl (fun m e hm hE => ?_)
  rw [Nat.zero_add]
  cases qd : D m with
  | false => rfl
  | true =>
    exfalso
    have := List.all_eq_true.1 h2 (e, m) (by rw [List.mem_zipIdx_iff_getElem?]; exact hm)
    simp only [Bool.or_eq_true, Bool.not_eq_true'] at this
    rcases this with (q | q) | q
    · rw [Nat.eq_of_beq_eq_true q] at qd; rw [qd] at hni; cases hni
    · rw [hE] at q; cases q
    · rw [hcl m qd q] at hni; cases hni

/-- One more is done. -/
theorem actF_put (hc : chk pt s ents = true) {D D' : Nat → Bool} {i : Nat} {ei : Ent} (hi : ents[i]? = some ei) (hni : D i = false) (hcl : ∀ m, D m = true → pr pt m i = true → D i = true) (hD : ∀ m, m ≠ i → D' m = D m) (hDi : D' i = true) :
    actF D' 0 ents s = ei.on (actF D 0 ents s) := by
  have hnp : ∀ m, D m = true → pr pt m i = false := fun m qd => by
    cases qp : pr pt m i with
    | false => rfl
    | true => rw [hcl m qd qp] at hni; cases hni
  have henv : (actF D' 0 ents s).env = (ei.on (actF D 0 ents s)).env := by
    funext u
    cases q : isE u ei with
    | true =>
      rw [on_env_yes q]
      refine env_last q hDi ents 0 s (Nat.zero_le _) (by simpa using hi) (fun m e' hm hlt hE => ?_)
      rw [Nat.zero_add] at hlt ⊢
      rw [hD m (by omega)]
      cases qd : D m with
      | false => rfl
      | true =>
        exfalso
        have := chk_apart hc hi hm hlt (hnp m qd)
        simp only [apartE, isE_yes hE, Bool.and_eq_true, Bool.not_eq_true'] at this
        rw [q] at this
        cases this.1.1
    | false =>
      rw [on_env_not q]
      refine env_same ents 0 s s rfl (fun m e hm hE => ?_)
      rw [Nat.zero_add]
      refine hD m (fun qm => ?_)
      subst qm
      rw [hm] at hi
      obtain rfl := Option.some.inj hi
      rw [hE] at q; cases q
  have hblk : (actF D' 0 ents s).blk = (ei.on (actF D 0 ents s)).blk := by
    funext b
    cases q : isB b ei with
    | true =>
      rw [on_blk]
      refine blk_last q hDi ents 0 s (Nat.zero_le _) (by simpa using hi) (fun m e' hm hlt hE => ?_) _
      rw [Nat.zero_add] at hlt ⊢
      rw [hD m (by omega)]
      cases qd : D m with
      | false => rfl
      | true =>
        exfalso
        have := chk_apart hc hi hm hlt (hnp m qd)
        simp only [apartE, Bool.and_eq_true] at this
        obtain ⟨p, hp1, hp2⟩ := List.any_eq_true.1 hE
        have := List.all_eq_true.1 this.2 p hp1
        rw [Nat.eq_of_beq_eq_true hp2] at this
        simp only [Bool.and_eq_true, Bool.not_eq_true'] at this
        rw [q] at this
        cases this.1
    | false =>
      rw [on_blk_not q]
      refine blk_same ents 0 s s rfl (fun m e hm hE => ?_)
      rw [Nat.zero_add]
      refine hD m (fun qm => ?_)
      subst qm
      rw [hm] at hi
      obtain rfl := Option.some.inj hi
      rw [hE] at q; cases q
  have mk : ∀ x y : AS, x.env = y.env → x.blk = y.blk → x = y := fun x y h1 h2 => by cases x; cases y; cases h1; cases h2; rfl
  exact mk _ _ henv hblk

theorem pr_edge (hpt : ptOK pt 0 ops.toList = true) {i j : Nat} {o : Oper} (ho : ops[i]? = some o) (h : pr pt i j = true) : ∃ e ∈ o.after, Region.binds .any e = true ∧ e.on < i ∧ (e.on = j ∨ pr pt e.on j = true) := by
  simp only [pr, Bool.and_eq_true] at h
  obtain ⟨h, hjl⟩ := h
  obtain ⟨x, hx, hj⟩ := List.any_eq_true.1 h
  have hj := Nat.eq_of_beq_eq_true hj
  subst hj
  have := ptOK_row hpt i o (by simpa using ho)
  rw [Nat.zero_add] at this
  simp only [ptRow, Bool.and_eq_true] at this
  have := List.all_eq_true.1 this.1 j hx
  have hnb : Nat.ble 100000 j = false := by
    have := blt_lt hjl
    cases q : Nat.ble 100000 j with
    | false => rfl
    | true => have := Nat.le_of_ble_eq_true q; omega
  rw [hnb, Bool.false_or] at this
  simp only [Bool.and_eq_true] at this
  obtain ⟨e, he, h2⟩ := List.any_eq_true.1 this.2
  simp only [Bool.and_eq_true, Bool.or_eq_true] at h2
  exact ⟨e, by simpa using he, h2.1.1, blt_lt h2.1.2, h2.2.imp Nat.eq_of_beq_eq_true id⟩

theorem edge_lt (hpt : ptOK pt 0 ops.toList = true) {i : Nat} {o : Oper} (ho : ops[i]? = some o) {e : Edge} (he : e ∈ o.after) (hb : Region.binds .any e = true) : e.on < i := by
  have := ptOK_row hpt i o (by simpa using ho)
  rw [Nat.zero_add] at this
  simp only [ptRow, Bool.and_eq_true] at this
  have := List.all_eq_true.1 this.2 e (by simpa using he)
  rw [hb] at this
  exact blt_lt (by simpa using this)

/-- A set that holds with each what must come before it. -/
def Closed (ops : Array Oper) (listed : Array Bool) : Prop := ∀ j oj, ops[j]? = some oj → listed.getD j false = true → ∀ e ∈ oj.after, Region.binds .any e = true → listed.getD e.on false = true

theorem closed_pr (hpt : ptOK pt 0 ops.toList = true) {listed : Array Bool} (hc : Closed ops listed) (hsz : listed.size = ops.size) : ∀ i, listed.getD i false = true → ∀ j, pr pt i j = true → listed.getD j false = true := by
  intro i
  induction i using Nat.strongRecOn with
  | _ i ih =>
    intro hi j hj
    have hlt : i < ops.size := by
      rcases Nat.lt_or_ge i listed.size with q | q
      · omega
      · rw [Array.getD_eq_getD_getElem?, Array.getElem?_eq_none q] at hi; cases hi
    obtain ⟨e, he, hb, h1, h2⟩ := pr_edge hpt (o := ops[i]) (by simp [hlt]) hj
    have := hc i ops[i] (by simp [hlt]) hi e he hb
    rcases h2 with h2 | h2
    · rw [← h2]; exact this
    · exact ih e.on h1 this j h2

theorem ready_pr (hpt : ptOK pt 0 ops.toList = true) {listed : Array Bool} (hc : Closed ops listed) (hsz : listed.size = ops.size) {i : Nat} (hr : i ∈ Region.ready .any ops listed) : ∀ j, pr pt i j = true → listed.getD j false = true := by
  intro j hj
  obtain ⟨_, o, ho, hall⟩ := mem_ready.1 hr
  obtain ⟨e, he, hb, h1, h2⟩ := pr_edge hpt ho hj
  have := hall e he hb
  rcases h2 with h2 | h2
  · rw [← h2]; exact this
  · exact closed_pr hpt hc hsz e.on this j h2

theorem none_ready (hpt : ptOK pt 0 ops.toList = true) {listed : Array Bool} (hsz : listed.size = ops.size) (h : Region.ready .any ops listed = []) : ∀ i, i < ops.size → listed.getD i false = true := by
  intro i
  induction i using Nat.strongRecOn with
  | _ i ih =>
    intro hi
    cases q : listed.getD i false with
    | true => rfl
    | false =>
      exfalso
      have : i ∈ Region.ready .any ops listed := by
        refine mem_ready.2 ⟨?_, ops[i], by simp [hi], fun e he hb => ?_⟩
        · rw [Array.getD_eq_getD_getElem?] at q ⊢
          rw [Array.getElem?_eq_getElem (by omega)] at q ⊢
          exact q
        · have hlt := edge_lt hpt (i := i) (o := ops[i]) (Array.getElem?_eq_getElem hi) he hb
          exact ih e.on hlt (by omega)
      rw [h] at this
      cases this

theorem drawn_ok (hpt : ptOK pt 0 ops.toList = true) (hl : ents.length = ops.size) (hc : chk pt s ents = true) (hst : ∀ (i : Nat) (o : Oper) (e : Ent), ops[i]? = some o → ents[i]? = some e → e.d = o.dst ∧ DStep P w0 nt ops o (rst pt s (ents.take i).reverse i) e.v e.bs) {Q : Exit → Act → World → Prop}
    (hq : ∀ β S a w, SR w0 nt β S (actF (fun _ => true) 0 ents s) a w → Q .normal a w) :
    ∀ (fuel : Nat) (listed : Array Bool) (β : Bt) (S : St) (a : Act) (w : World), listed.size = ops.size → Closed ops listed → listed.toList.count false ≤ fuel → SR w0 nt β S (actF (fun j => listed.getD j false) 0 ents s) a w → wpAny P .any ops Q fuel listed a w := by
  have hall : ∀ (listed : Array Bool) (β : Bt) (S : St) (a : Act) (w : World), (∀ i, i < ops.size → listed.getD i false = true) → SR w0 nt β S (actF (fun j => listed.getD j false) 0 ents s) a w → Q .normal a w := by
    intro listed β S a w h hs
    have e1 : actF (fun j => listed.getD j false) 0 ents s = actF (fun _ => true) 0 ents s := by
      have hm : ∀ (m : Nat) (e : Ent), ents[m]? = some e → listed.getD (0 + m) false = true := fun m e hm => by
        rw [Nat.zero_add]; exact h m (by have := (List.getElem?_eq_some_iff.1 hm).1; omega)
      show AS.mk _ _ = AS.mk _ _
      congr 1
      · funext u; exact env_same ents 0 s s rfl (fun m e q _ => hm m e q)
      · funext u; exact blk_same ents 0 s s rfl (fun m e q _ => hm m e q)
    rw [e1] at hs
    exact hq β S a w hs
  intro fuel
  induction fuel with
  | zero =>
    intro listed β S a w hsz hcl hcnt hs
    have hfull : ∀ i, i < ops.size → listed.getD i false = true := by
      intro i hi
      cases q : listed.getD i false with
      | true => rfl
      | false =>
        have : false ∈ listed.toList := by
          rw [Array.getD_eq_getD_getElem?, Array.getElem?_eq_getElem (by omega)] at q
          simp only [Option.getD_some] at q
          rw [← q]; exact Array.getElem_mem_toList (by omega)
        have := List.count_pos_iff.2 this
        omega
    refine ⟨?_, hall listed β S a w hfull hs⟩
    rw [List.eq_nil_iff_forall_not_mem]
    intro i hi
    obtain ⟨h1, o, ho, _⟩ := mem_ready.1 hi
    have hlt : i < ops.size := (Array.getElem?_eq_some_iff.1 ho).1
    have := hfull i hlt
    rw [Array.getD_eq_getD_getElem?, Array.getElem?_eq_getElem (by omega)] at h1 this
    simp only [Option.getD_some] at h1 this
    rw [this] at h1; cases h1
  | succ fuel ih =>
    intro listed β S a w hsz hcl hcnt hs
    refine ⟨fun h => hall listed β S a w (none_ready hpt hsz h) hs, fun i hi => ?_⟩
    obtain ⟨h1, o, ho, hedges⟩ := mem_ready.1 hi
    have hlt : i < ops.size := (Array.getElem?_eq_some_iff.1 ho).1
    obtain ⟨e, he⟩ : ∃ e, ents[i]? = some e := ⟨ents[i]'(by omega), by simp [hl, hlt]⟩
    obtain ⟨hd, hds⟩ := hst i o e ho he
    have hni : listed.getD i false = false := by
      rw [Array.getD_eq_getD_getElem?, Array.getElem?_eq_getElem (by omega)] at h1 ⊢
      exact h1
    have hclo : ∀ m, listed.getD m false = true → pr pt m i = true → listed.getD i false = true := fun m q1 q2 => closed_pr hpt hcl hsz m q1 i q2
    have hle := rst_le hc he (D := fun j => listed.getD j false) (ready_pr hpt hcl hsz hi) hni hclo
    have hput := actF_put hc he hni hclo (D := fun j => listed.getD j false) (D' := fun j => (listed.setIfInBounds i true).getD j false)
      (fun m hm => getD_set_ne false (Ne.symm hm)) (by simp [hsz, hlt])
    have hnext : ∀ β' S' a' w', SR w0 nt β' S' ((actF (fun j => listed.getD j false) 0 ents s).eff o.dst e.v e.bs) a' w' → wpAny P .any ops Q fuel (listed.setIfInBounds i true) a' w' := by
      intro β' S' a' w' hs'
      refine ih (listed.setIfInBounds i true) β' S' a' w' (by simpa using hsz) ?_ ?_ ?_
      · intro j oj hj hlj ed hed hb
        by_cases q : j = i
        · subst q
          rw [ho] at hj
          obtain rfl := Option.some.inj hj
          exact getD_set_true (hedges ed hed hb)
        · rw [getD_set_ne false (Ne.symm q)] at hlj
          exact getD_set_true (hcl j oj hj hlj ed hed hb)
      · have hcs : (listed.setIfInBounds i true).toList.count false + 1 = listed.toList.count false := by
          have hi' : i < listed.toList.length := by rw [Array.length_toList, hsz]; exact hlt
          rw [Array.toList_setIfInBounds, List.count_set hi']
          have : listed.toList[i] = false := by
            rw [Array.getD_eq_getD_getElem?, Array.getElem?_eq_getElem (by omega)] at hni
            simpa using hni
          rw [this]
          have := List.count_pos_iff.2 (show false ∈ listed.toList by rw [← this]; exact List.getElem_mem hi')
          rw [if_pos (show (false == false) = true from rfl), if_neg (show ¬ (true == false) = true by decide)]
          omega
        omega
      · rw [hput]
        have : e.on (actF (fun j => listed.getD j false) 0 ents s) = (actF (fun j => listed.getD j false) 0 ents s).eff o.dst e.v e.bs := by rw [Ent.on, hd]
        rw [this]; exact hs'
    have hm : MStep P w0 nt o (rst pt s (ents.take i).reverse i) e.v e.bs → o.wp P a w (wpAny P .any ops Q fuel (listed.setIfInBounds i true)) Q := fun hm =>
      hm _ hle (fun p hp hn => rst_new hc he (D := fun j => listed.getD j false) hni hclo p hp hn) β S a w _ Q hs (fun β' S' a' w' hs' => hnext β' S' a' w' hs')
    unfold wpOp
    simp only [ho]
    rcases hds with ⟨hg, hms⟩ | ⟨j, b, t, hg, hj, h | h⟩
    · rw [if_pos (by simp [Region.wanted, hg])]
      exact .inl (hm hms)
    · rw [if_pos (by simp only [Region.wanted, hg, yield_ok hs hj (hle.1 _ _ h.1), beq_self_eq_true])]
      exact .inl (hm h.2)
    · obtain ⟨h2, h3, h4, h5⟩ := h
      rw [if_neg (by
        rcases h2 with h2 | h2
        · simp only [Region.wanted, hg, yield_ok hs hj (hle.1 _ _ h2)]; cases b <;> decide
        · simp only [Region.wanted, hg, yield_un hs hj (hle.1 _ _ h2)]; cases b <;> decide)]
      refine hnext β S _ w ?_
      rw [h3, h4]
      exact hs.put h5 vr_undef

theorem SR.drawn {β : Bt} {S : St} {a : Act} {w : World} (h : SR w0 nt β S s a w) : SR w0 nt β S s a { w with drawn := w.drawn + 1 } :=
  h.ext ⟨rfl, rfl, rfl, Nat.le_refl _, fun _ _ => rfl⟩

theorem AC_drawn (pt : List (List Nat)) {id : Nat} (hm : P.follows .mixedOrders = true) (hpt : ptOK pt 0 ops.toList = true)
    (h : WD P w0 nt ops pt s [] ops.toList (fun r => chk pt s r.reverse = true ∧ C .normal (onAll r s))) : AC P w0 nt (.region id ops true) s C := by
  intro β S a w Q hs hq
  obtain ⟨es, h1, h2, h3, h4⟩ := h
  simp only [List.append_nil, List.length_nil, Nat.zero_add] at h2 h3 h4
  rw [List.reverse_reverse] at h3
  rw [← onAll_eq, List.reverse_reverse] at h4
  have hl : es.length = ops.size := by simpa using h1
  refine wp_region_any hm (drawn_ok hpt hl h3 (fun i o e ho he => h2 i o e (by simpa using ho) he) (fun β' S' a' w' hs' => hq .normal β' S' a' w' _ h4 hs') ops.size _ β S a _ (by simp) ?_ ?_ ?_)
  · intro j oj _ hl
    simp only [Array.getD_eq_getD_getElem?] at hl
    rcases Nat.lt_or_ge j ops.size with q | q
    · simp [q] at hl
    · simp [Nat.not_lt.2 q] at hl
  · refine Nat.le_trans List.count_le_length ?_
    simp
  · have e1 : actF (fun j => (Array.replicate ops.size false).getD j false) 0 es s = s := by
      have hD : (fun j => (Array.replicate ops.size false).getD j false) = fun _ => false := by
        funext j
        rw [Array.getD_eq_getD_getElem?]
        rcases Nat.lt_or_ge j ops.size with q | q
        · simp [q]
        · simp [Nat.not_lt.2 q]
      rw [hD]
      have : ∀ (l : List Ent) (k : Nat) (s : AS), actF (fun _ => false) k l s = s := fun l => by
        induction l with
        | nil => intro _ _; rfl
        | cons a l ih => intro k s; simp only [actF]; exact ih _ _
      exact this _ _ _
    rw [e1]
    exact hs.drawn

end
end Go.Aw
