/-
  Contracts, and calls by them.
-/
import Derived.Test.YtpnjflimilamdaaGreatAw10
namespace Go.Aw
open Go.RowKit

def OwnV (S' : St) (w w' : World) (v : Value) (e es : Nat) (rows : List (List AV)) (wr : Bool) (b : Nat) : Prop :=
  ∃ bi : BI, bi.b = b ∧ v = .slice (some ⟨bi.b, 0, none⟩) bi.n bi.c ∧ w.heap.size ≤ bi.b ∧ BR nb S' w' bi (.arr e es rows wr)

/-- What a call hands back, one value. 'b': the own block that it lies in, if any. -/
def RV1 (S' : St) (w w' : World) (v : Value) (b : Nat) : AV → Prop
  | .own e es rows wr => OwnV S' w w' v e es rows wr b
  | x => VR nb S' w' v x

def isOwn : AV → Bool
  | .own .. => true
  | _ => false

def RV (S' : St) (w w' : World) (v : Value) : AV → Prop
  | .tup xs => ∃ (cs : Array Value) (bs : Nat → Nat), v = .tuple cs ∧ cs.size = xs.length ∧ (∀ j, j < xs.length → RV1 S' w w' (cs.getD j undef) (bs j) (xs.getD j .any)) ∧
      ∀ i j, i < j → j < xs.length → isOwn (xs.getD i .any) = true → isOwn (xs.getD j .any) = true → bs i ≠ bs j
  | x => ∃ b, RV1 S' w w' v b x

/-- THE CONTRACT: called with what reads as 'args', f returns what reads as 'res'; nothing that was there has changed. -/
def PC (P : Program) (f : Nat) (args : List AV) (res : AV) : Prop :=
  ∀ (w : World) (S0 : St) (ca : Array Value), (∀ b o, S0 b o → b < w.heap.size) → ca.size = args.length → (∀ j, j < args.length → VR nb S0 w (ca.getD j undef) (args.getD j .any)) →
    Calls P f ca w fun e w' => ∃ v S', e = .returned v ∧ Below w.heap.size w w' ∧ (∀ b o, S0 b o → S' b o) ∧ (∀ b o, S' b o → b < w.heap.size → S0 b o) ∧ (∀ b o, S' b o → b < w'.heap.size) ∧ RV S' w w' v res

/-- A callee's end: what was there stands, what lasts has grown by new places. -/
theorem HR.extS {w0 : B0} {w w' : World} {β : Bt} {S S' : St} {blk : Bk} (h : HR w0 β S blk w) (hB : Below w.heap.size w w') (h1 : ∀ b o, S b o → S' b o) (h2 : ∀ b o, S' b o → b < w.heap.size → S b o) (h3 : ∀ b o, S' b o → b < w'.heap.size) :
    HR w0 β S' blk w' ∧ ∀ {v x}, VR β S w v x → VR β S' w' v x := by
  have hSm : ∀ b o, S b o → S' b o ∧ w'.cell? ⟨b, o, none⟩ = w.cell? ⟨b, o, none⟩ := fun b o q => ⟨h1 b o q, cell_lt hB (h.hlt b o q)⟩
  have hgs : w0.heap.size ≤ w.heap.size := h.hbelow.size
  refine ⟨⟨?_, h.hdom, h.hinj, fun b o q => h1 b o (h.hold b o q), fun b o q hl => h.hnew b o (h2 b o q (by have := w0.hlt0 b hl; have : w0.w.heap.size ≤ w.heap.size := hgs; omega)) hl, h3, h.hbelow.trans (.of hB fun k hk => Nat.lt_of_lt_of_le (w0.hlt0 k hk) hgs)⟩, fun q => q.mono (fun _ _ q => q) hSm⟩
  intro id k hk
  obtain ⟨bi, e1, e2, e3⟩ := h.hblk id k hk
  exact ⟨bi, e1, e2.ext (fun _ _ q => q) hSm (fun hl => hB.block _ (e2.lt hl)) (fun hl o q => h2 _ o q (e2.lt hl)), e3⟩

/-- An own block more that is there already. -/
theorem HR.addB {w0 : B0} {w : World} {β : Bt} {S : St} {blk : Bk} (h : HR w0 β S blk w) {id : Nat} (hid : blk id = none) {k : AB} {bi : BI} (hk : BR nb S w bi k) (hb : ¬ w0.old bi.b)
    (hne : ∀ i bj kj, β i = some bj → blk i = some kj → kj.live = true → bj.b ≠ bi.b) :
    HR w0 (upd β id bi) S (upd blk id k) w ∧ ∀ {v x}, VR β S w v x → VR (upd β id bi) S w v x := by
  have hb' : ∀ i b, β i = some b → upd β id bi i = some b := by
    intro i b q
    by_cases e : i = id
    · subst e; obtain ⟨k, hk⟩ := h.hdom i b q; rw [hid] at hk; cases hk
    · rw [upd_other β bi e]; exact q
  have hSm : ∀ b o, S b o → S b o ∧ w.cell? ⟨b, o, none⟩ = w.cell? ⟨b, o, none⟩ := fun b o q => ⟨q, rfl⟩
  refine ⟨⟨?_, ?_, ?_, h.hold, h.hnew, h.hlt, h.hbelow⟩, fun q => q.mono hb' hSm⟩
  · intro i kk q
    by_cases e : i = id
    · subst e
      have : some k = some kk := (upd_same blk i k).symm.trans q
      obtain rfl := Option.some.inj this
      exact ⟨bi, upd_same β i bi, hk.ext (fun _ _ q => by cases q) hSm (fun _ => rfl) (fun _ _ q => q), fun _ => hb⟩
    · rw [upd_other blk k e] at q
      obtain ⟨b2, h1, h2, h3⟩ := h.hblk i kk q
      exact ⟨b2, hb' i b2 h1, h2.ext hb' hSm (fun _ => rfl) (fun _ _ q => q), h3⟩
  · intro i b q
    by_cases e : i = id
    · subst e; exact ⟨k, upd_same blk i k⟩
    · rw [upd_other β bi e] at q
      obtain ⟨k2, hk2⟩ := h.hdom i b q
      exact ⟨k2, by rw [upd_other blk k e]; exact hk2⟩
  · intro i j b1 b2 k1 k2 hne2 q1 l1 q2 l2 p1 p2
    by_cases ei : i = id
    · subst ei
      rw [upd_same] at p1
      obtain rfl := Option.some.inj p1
      have ej : j ≠ i := fun e => hne2 e.symm
      rw [upd_other _ _ ej] at q2 p2
      exact fun q => hne j b2 k2 p2 q2 l2 q.symm
    · rw [upd_other _ _ ei] at q1 p1
      by_cases ej : j = id
      · subst ej
        rw [upd_same] at p2
        obtain rfl := Option.some.inj p2
        exact hne i b1 k1 p1 q1 l1
      · rw [upd_other _ _ ej] at q2 p2
        exact h.hinj i j b1 b2 k1 k2 hne2 q1 l1 q2 l2 p1 p2

/-- What comes back takes its place: an own row becomes an array of the caller's. -/
def thaw1 (id : Nat) (blk : Bk) : AV → Option (AV × Bk)
  | .own e es rows wr => match blk id with
    | none => some (.arr id, upd blk id (.arr e es rows wr))
    | some _ => none
  | x => match closedV x with
    | true => some (x, blk)
    | false => none

def thawL (id : Nat) (blk : Bk) : List AV → Option (List AV × Bk)
  | [] => some ([], blk)
  | x :: l => match thaw1 id blk x with
    | some (y, blk1) => match thawL (id + 1000) blk1 l with
      | some (ys, blk2) => some (y :: ys, blk2)
      | none => none
    | none => none

def thaw (id : Nat) (blk : Bk) : AV → Option (AV × Bk)
  | .tup xs => match thawL id blk xs with
    | some (ys, blk') => some (.tup ys, blk')
    | none => none
  | x => thaw1 id blk x

/-- Blocks from 'm' on that are not among the live ones. -/
def FreshB (β : Bt) (blk : Bk) (b : Nat) : Prop := ∀ i bj kj, β i = some bj → blk i = some kj → kj.live = true → bj.b ≠ b

theorem thaw1_ok {w0 : B0} {w w' : World} {β : Bt} {S : St} {blk blk' : Bk} (h : HR w0 β S blk w') (hw : w0.heap.size ≤ w.heap.size) {id b : Nat} {x y : AV} (ht : thaw1 id blk x = some (y, blk')) {v : Value} (hv : RV1 S w w' v b x) (hf : isOwn x = true → FreshB β blk b) :
    ∃ β', HR w0 β' S blk' w' ∧ VR β' S w' v y ∧ (∀ {v x}, VR β S w' v x → VR β' S w' v x) ∧ ∀ c, (isOwn x = true → c ≠ b) → FreshB β blk c → FreshB β' blk' c := by
  by_cases e : isOwn x = true
  · cases x <;> simp [isOwn] at e
    rename_i e es rows wr
    simp only [thaw1] at ht
    split at ht
    · rename_i hid
      obtain ⟨rfl, rfl⟩ := Prod.mk.inj (Option.some.inj ht)
      obtain ⟨bi, rfl, rfl, hge, hbr⟩ := hv
      obtain ⟨h1, h2⟩ := h.addB hid hbr (fun ho => by have := w0.hlt0 _ ho; have : w0.w.heap.size ≤ w.heap.size := hw; omega) (hf rfl)
      refine ⟨_, h1, .arr id _ (upd_same _ _ _), h2, fun c hc hfc i bj kj p q l => ?_⟩
      by_cases ei : i = id
      · subst ei
        rw [upd_same] at p
        obtain rfl := Option.some.inj p
        exact fun q => hc rfl q.symm
      · rw [upd_other _ _ ei] at p q
        exact hfc i bj kj p q l
    · cases ht
  · have e' : isOwn x = false := by simpa using e
    have hx : closedV x = true ∧ y = x ∧ blk' = blk := by
      cases x <;> simp only [thaw1] at ht <;> first
        | (simp [isOwn] at e'; done)
        | (split at ht
           · obtain ⟨rfl, rfl⟩ := Prod.mk.inj (Option.some.inj ht); exact ⟨by assumption, rfl, rfl⟩
           · cases ht)
    obtain ⟨_, rfl, rfl⟩ := hx
    have hv' : VR nb S w' v y := by
      cases y <;> first | exact hv | (simp [isOwn] at e')
    exact ⟨β, h, VR.up hv', fun q => q, fun c _ q => q⟩

theorem thawL_ok {w0 : B0} {w w' : World} {S : St} (hw : w0.heap.size ≤ w.heap.size) : ∀ {xs : List AV} {id : Nat} {β : Bt} {blk blk' : Bk} {ys : List AV} {bs : Nat → Nat} {cv : Nat → Value}, HR w0 β S blk w' → thawL id blk xs = some (ys, blk') →
    (∀ j, j < xs.length → RV1 S w w' (cv j) (bs j) (xs.getD j .any)) → (∀ i j, i < j → j < xs.length → isOwn (xs.getD i .any) = true → isOwn (xs.getD j .any) = true → bs i ≠ bs j) →
    (∀ j, j < xs.length → isOwn (xs.getD j .any) = true → FreshB β blk (bs j)) →
    ∃ β', HR w0 β' S blk' w' ∧ ys.length = xs.length ∧ (∀ j, j < ys.length → VR β' S w' (cv j) (ys.getD j .any)) ∧ ∀ {v x}, VR β S w' v x → VR β' S w' v x
  | [], id, β, blk, blk', ys, bs, cv, h, ht, _, _, _ => by
    obtain ⟨rfl, rfl⟩ := Prod.mk.inj (Option.some.inj ht)
    exact ⟨β, h, rfl, fun j hj => by simp at hj, fun q => q⟩
  | x :: l, id, β, blk, blk', ys, bs, cv, h, ht, h1, h2, h3 => by
    simp only [thawL] at ht
    split at ht
    · rename_i y blk1 e1
      split at ht
      · rename_i ys2 blk2 e2
        obtain ⟨rfl, rfl⟩ := Prod.mk.inj (Option.some.inj ht)
        obtain ⟨β1, r1, r2, r3, r4⟩ := thaw1_ok h hw e1 (h1 0 (by simp)) (fun q => h3 0 (by simp) q)
        obtain ⟨β2, q1, q2, q3, q4⟩ := thawL_ok hw (bs := fun j => bs (j + 1)) (cv := fun j => cv (j + 1)) r1 e2 (fun j hj => by simpa using h1 (j + 1) (by simpa using hj))
          (fun i j hij hj o1 o2 => h2 (i + 1) (j + 1) (by omega) (by simpa using hj) (by simpa using o1) (by simpa using o2))
          (fun j hj o => r4 _ (fun o0 => fun e => h2 0 (j + 1) (by omega) (by simpa using hj) (by simpa using o0) (by simpa using o) e.symm) (h3 (j + 1) (by simpa using hj) (by simpa using o)))
        refine ⟨β2, q1, by simp [q2], fun j hj => ?_, fun q => q4 (r3 q)⟩
        cases j with
        | zero => simpa using q4 r2
        | succ j => simpa using q3 j (by simpa using hj)
      · cases ht
    · cases ht

theorem thaw_ok {w0 : B0} {w w' : World} {β : Bt} {S : St} {blk blk' : Bk} (h : HR w0 β S blk w') (hw : w0.heap.size ≤ w.heap.size) {id : Nat} {x y : AV} (ht : thaw id blk x = some (y, blk')) {v : Value} (hv : RV S w w' v x) (hf : ∀ b, w.heap.size ≤ b → FreshB β blk b) :
    ∃ β', HR w0 β' S blk' w' ∧ VR β' S w' v y ∧ ∀ {v x}, VR β S w' v x → VR β' S w' v x := by
  by_cases e : ∃ xs, x = .tup xs
  · obtain ⟨xs, rfl⟩ := e
    simp only [thaw] at ht
    split at ht
    · rename_i ys b2 e1
      obtain ⟨rfl, rfl⟩ := Prod.mk.inj (Option.some.inj ht)
      obtain ⟨cs, bs, rfl, h2, h3, h4⟩ := hv
      obtain ⟨β', q1, q2, q3, q4⟩ := thawL_ok hw (cv := fun j => cs.getD j undef) h e1 h3 h4 (fun j hj o => by
        have := h3 j hj
        generalize xs.getD j .any = z at this o
        cases z <;> simp [isOwn] at o
        obtain ⟨bi, hbe, _, hge, _⟩ := this
        exact hf _ (hbe ▸ hge))
      exact ⟨β', q1, .tup cs ys (by omega) q3, q4⟩
    · cases ht
  · have ht' : thaw1 id blk x = some (y, blk') := by cases x <;> first | exact ht | exact absurd ⟨_, rfl⟩ e
    have hv' : ∃ b, RV1 S w w' v b x := by cases x <;> first | exact hv | exact absurd ⟨_, rfl⟩ e
    obtain ⟨b, hv'⟩ := hv'
    obtain ⟨β', q1, q2, q3, _⟩ := thaw1_ok h hw ht' hv' (fun o => by
      cases x <;> simp [isOwn] at o
      obtain ⟨bi, rfl, _, hge, _⟩ := hv'
      exact hf _ hge)
    exact ⟨β', q1, q2, q3⟩

/-! arguments -/
def argS (blk : Bk) : AV → Option AV
  | .arr id => match blk id with
    | some (.ar _ _ es rows false) => some (.lst es rows false)
    | some (.ro _ es rows) => some (.lst es rows false)
    | _ => none
  | .ptr id off => match blk id with
    | some (.rob cells) => some (.eptr cells off)
    | _ => none
  | x => match closedS x with
    | true => some x
    | false => none

def argSs (blk : Bk) : List AV → Option (List AV)
  | [] => some []
  | x :: l => match argS blk x, argSs blk l with
    | some y, some r => some (y :: r)
    | _, _ => none

def argV (blk : Bk) : AV → Option AV
  | .agg cs => match argSs blk cs with
    | some cs' => some (.agg cs')
    | none => none
  | x => argS blk x

theorem argS_ok {w0 : B0} {w : World} {β : Bt} {S : St} {blk : Bk} (h : HR w0 β S blk w) {v : Value} {x y : AV} (hv : VR β S w v x) (ha : argS blk x = some y) : VR nb S w v y := by
  by_cases e : ∃ id, x = .arr id
  · obtain ⟨id, rfl⟩ := e
    simp only [argS] at ha
    split at ha
    · rename_i hk
      obtain rfl := Option.some.inj ha
      exact closed0_nb rfl (arr_lst h (.inl hk) hv)
    · rename_i hk
      obtain rfl := Option.some.inj ha
      exact closed0_nb rfl (arr_lst (pin := none) h (.inr hk) hv)
    · cases ha
  · by_cases e0 : ∃ id off, x = .ptr id off
    · obtain ⟨id, off, rfl⟩ := e0
      simp only [argS] at ha
      split at ha
      · rename_i cells hk
        obtain rfl := Option.some.inj ha
        cases hv
        rename_i bi hbi
        obtain ⟨bi', h1, h2, _⟩ := h.hblk id _ hk
        rw [hbi] at h1
        obtain rfl := Option.some.inj h1
        have := VRi.eptr (S := S) (w := w) (β := nb) bi.b 0 off cells (fun j => ((w.cell? ⟨bi.b, j, none⟩).getD undef)) (fun j hj => by
          obtain ⟨q1, u, q2, q3, _⟩ := h2 j hj
          rw [Nat.zero_add, q2]
          exact ⟨q1, rfl, q3⟩) (fun j hj => by
          obtain ⟨_, u, q2, _, q4⟩ := h2 j hj
          simp only [q2]
          exact q4)
        rw [Nat.zero_add] at this
        exact this
      · cases ha
    have : closedS x = true ∧ y = x := by
      cases x <;> simp only [argS] at ha <;> first
        | exact absurd ⟨_, rfl⟩ e
        | exact absurd ⟨_, _, rfl⟩ e0
        | (split at ha
           · exact ⟨by assumption, (Option.some.inj ha).symm⟩
           · cases ha)
    obtain ⟨hc, rfl⟩ := this
    exact closedS_nb hc hv

theorem argSs_ok {w0 : B0} {w : World} {β : Bt} {S : St} {blk : Bk} (h : HR w0 β S blk w) : ∀ {xs ys : List AV} {cv : Nat → Value}, argSs blk xs = some ys → (∀ j, j < xs.length → VR β S w (cv j) (xs.getD j .any)) →
    ys.length = xs.length ∧ ∀ j, j < ys.length → VR nb S w (cv j) (ys.getD j .any)
  | [], ys, cv, ha, _ => by obtain rfl := Option.some.inj ha; exact ⟨rfl, fun j hj => by simp at hj⟩
  | x :: l, ys, cv, ha, hv => by
    simp only [argSs] at ha
    split at ha
    · rename_i y r e1 e2
      obtain rfl := Option.some.inj ha
      obtain ⟨q1, q2⟩ := argSs_ok h (cv := fun j => cv (j + 1)) e2 (fun j hj => by simpa using hv (j + 1) (by simpa using hj))
      refine ⟨by simp [q1], fun j hj => ?_⟩
      cases j with
      | zero => simpa using argS_ok h (hv 0 (by simp)) e1
      | succ j => simpa using q2 j (by simpa using hj)
    · cases ha

theorem argV_ok {w0 : B0} {w : World} {β : Bt} {S : St} {blk : Bk} (h : HR w0 β S blk w) {v : Value} {x y : AV} (hv : VR β S w v x) (ha : argV blk x = some y) : VR nb S w v y := by
  by_cases e : ∃ cs, x = .agg cs
  · obtain ⟨cs, rfl⟩ := e
    simp only [argV] at ha
    split at ha
    · rename_i cs' e1
      obtain rfl := Option.some.inj ha
      cases hv with
      | agg c xs h1 h3 h4 =>
        obtain ⟨q1, q2⟩ := argSs_ok h (cv := fun j => c.getD j undef) e1 h3
        exact .agg c cs' (by omega) q2 (fun j hj => h4 j (by omega))
    · cases ha
  · exact argS_ok h hv (by cases x <;> first | exact ha | exact absurd ⟨_, rfl⟩ e)

def evArgs (s : AS) : List Operand → Option (List AV)
  | [] => some []
  | x :: l => match evO s x with
    | some v => match argV s.blk v, evArgs s l with
      | some y, some r => some (y :: r)
      | _, _ => none
    | none => none

theorem evArgs_ok {w0 : B0} {nt : Nat} {s : AS} {w : World} {β : Bt} {S : St} {a : Act} (hs : SR w0 nt β S s a w) : ∀ {l : List Operand} {xs : List AV}, evArgs s l = some xs → l.length = xs.length ∧
    ∀ j, j < xs.length → VR nb S w ((l.map a.eval).getD j undef) (xs.getD j .any)
  | [], xs, h => by obtain rfl := Option.some.inj h; exact ⟨rfl, fun j hj => by simp at hj⟩
  | x :: l, xs, h => by
    simp only [evArgs] at h
    split at h
    · rename_i v hv
      split at h
      · rename_i y r e1 e2
        obtain rfl := Option.some.inj h
        obtain ⟨q1, q2⟩ := evArgs_ok hs e2
        refine ⟨by simp [q1], fun j hj => ?_⟩
        cases j with
        | zero => simpa using argV_ok hs.hh (evO_ok hs hv) e1
        | succ j => simpa using q2 j (by simpa using hj)
      · cases h
    · cases h

section
variable {P : Program} {ty : Ty} {w0 : B0} {nt : Nat} {s : AS} {d : Option Nat} {t : TypeId} {pos : String} {af : Array Edge} {g : Option (Nat × Bool)}

theorem ok_call {f : Nat} {fn : Func} {ops : Array Operand} {ts : Array TypeId} {xs : List AV} {res y : AV} {blk' : Bk} (id : Nat) (hf : P.funcs[f]? = some fn) (hbody : fn.body.isNone = false) (hname : (fn.name == "runtime.NumGoroutine") = false)
    (ha : evArgs s ops.toList = some xs) (hc : PC P f xs res) (ht : thaw id s.blk res = some (y, blk')) (hd : dOK nt d = true) :
    OkOp P w0 nt ⟨d, .call { callee := .value (.func f), args := ops, argTypes := ts }, t, pos, af, g⟩ s ((⟨s.env, blk'⟩ : AS).put d y) := by
  intro β S a w next Q hs hn
  obtain ⟨e1, e2⟩ := evArgs_ok hs ha
  have hr : (execOp a.eval ⟨d, .call { callee := .value (.func f), args := ops, argTypes := ts }, t, pos, af, g⟩).run P w = .ok (.enter f (ops.map a.eval)) w := by
    have hcf : (callFunc f (ops.map a.eval)).run P w = .ok (.enter f (ops.map a.eval)) w := by
      unfold callFunc
      rw [Sem.run_bind, run_program, Result.andThen_ok]
      simp only [hf, hname, hbody, Bool.false_eq_true, if_false, Sem.run_pure]
    simp [execOp, resolve, Act.eval, Deferred.ofValue, invoke, hcf]
  unfold Oper.wp
  rw [hr]
  simp only [Oper.upon]
  have hgs : w0.heap.size ≤ w.heap.size := hs.hh.hbelow.size
  refine (hc w S (ops.map a.eval) hs.hh.hlt (by simpa using e1) (fun j hj => by
    have := e2 j hj
    rw [← getD_toList, Array.toList_map]; exact this)).mono ?_
  rintro e w' ⟨v, S', rfl, hB, h1, h2, h3, hv⟩
  obtain ⟨q1, q2⟩ := hs.hh.extS hB h1 h2 h3
  obtain ⟨β', r1, r2, r3⟩ := thaw_ok q1 hgs ht hv (fun b hb i bj kj p q l => by
    obtain ⟨bi, z1, z2, _⟩ := hs.hh.hblk i kj q
    rw [p] at z1
    obtain rfl := Option.some.inj z1
    have := z2.lt l
    omega)
  have hs2 : SR w0 nt β' S' ⟨s.env, blk'⟩ a w' := ⟨r1, fun u z q => r3 (q2 (hs.henv u z q)), hs.hsize, hs.hdefers⟩
  exact hn _ _ _ _ (hs2.put hd r2)

end
end Go.Aw
