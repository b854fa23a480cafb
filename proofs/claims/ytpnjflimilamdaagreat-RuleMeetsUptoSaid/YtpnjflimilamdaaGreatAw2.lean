/-
  States of the walk: what each slot holds, the blocks of the call's own; what stands for them in a world; what an allocation, a callee, a store does to that.
-/
import Derived.Test.YtpnjflimilamdaaGreatAw1
namespace Go.Aw
open Go.RowKit

inductive AB where
  | bx (pin : Option BI) (cells : List AV)
  | ar (pin : Option BI) (e es : Nat) (rows : List (List AV)) (wr : Bool)
  | ro (e es : Nat) (rows : List (List AV))
  | gone
  | rob (cells : List AV)

/-- A box, an array; of what is lent it is known where it lies. -/
abbrev AB.box (cells : List AV) : AB := .bx none cells
abbrev AB.arr (e es : Nat) (rows : List (List AV)) (wr : Bool) : AB := .ar none e es rows wr

/-- Does a block belong to the call alone? -/
def AB.live : AB → Bool
  | .ro .. => false
  | .gone => false
  | .rob _ => false
  | _ => true

abbrev Bk := Nat → Option AB

structure AS where
  env : Nat → Option AV
  blk : Bk

def upd {α : Type} (f : Nat → Option α) (t : Nat) (v : α) (u : Nat) : Option α := match Nat.beq u t with
  | true => some v
  | false => f u

theorem upd_same {α : Type} (f : Nat → Option α) (t : Nat) (v : α) : upd f t v t = some v := by
  unfold upd; rw [Nat.beq_refl]
theorem upd_other {α : Type} (f : Nat → Option α) {t u : Nat} (v : α) (h : u ≠ t) : upd f t v u = f u := by
  unfold upd
  have : Nat.beq u t = false := by
    cases e : Nat.beq u t with
    | true => exact absurd (Nat.eq_of_beq_eq_true e) h
    | false => rfl
  rw [this]

def putE (f : Nat → Option AV) (d : Option Nat) (v : AV) : Nat → Option AV := match d with
  | some t => upd f t v
  | none => f

def AS.put (s : AS) (d : Option Nat) (v : AV) : AS := ⟨putE s.env d v, s.blk⟩
def AS.setB (s : AS) (id : Nat) (k : AB) : AS := ⟨s.env, upd s.blk id k⟩

/-- A row of cells reads as a row of abstract values. -/
def CR (β : Bt) (S : St) (w : World) (cs : Array Value) (o : Nat) (xs : List AV) : Prop :=
  ∀ j, j < xs.length → VR β S w (cs.getD (o + j) undef) (xs.getD j .any) ∧ (cs.getD (o + j) undef).oneCell' = true

def BR (β : Bt) (S : St) (w : World) (bi : BI) : AB → Prop
  | .bx p cells => ∃ cs t, w.heap[bi.b]? = some (.cells cs t (0, 0)) ∧ cs.size = cells.length ∧ CR β S w cs 0 cells ∧ (∀ o, ¬ S bi.b o) ∧ ∀ B, p = some B → bi = B
  | .ar p e es rows wr => bi.es = es ∧ bi.n = rows.length ∧ ∃ cs, w.heap[bi.b]? = some (.cells cs e (0, 0)) ∧ bi.n ≤ bi.c ∧ bi.c ≤ maxLen ∧ cs.size = bi.c * es ∧
      (∀ i, i < rows.length → (rows.getD i []).length = es ∧ CR nb S w cs (i * es) (rows.getD i [])) ∧
      (wr = true → ∀ o, ¬ S bi.b o) ∧ (wr = false → ∀ o, S bi.b o ↔ o < bi.n * es) ∧ ∀ B, p = some B → bi = B
  | .ro _ es rows => bi.es = es ∧ bi.n = rows.length ∧ bi.n ≤ bi.c ∧
      (∀ i, i < rows.length → (rows.getD i []).length = es ∧ ∀ j, j < es → S bi.b (i * es + j) ∧ ∃ v, w.cell? ⟨bi.b, i * es + j, none⟩ = some v ∧ v.oneCell' = true ∧ VR nb S w v ((rows.getD i []).getD j .any))
  | .gone => True
  | .rob cells => ∀ j, j < cells.length → S bi.b j ∧ ∃ v, w.cell? ⟨bi.b, j, none⟩ = some v ∧ v.oneCell' = true ∧ VR nb S w v (cells.getD j .any)

/-- Where a call begins: its world, and the cells of it that last. -/
structure B0 where
  w : World
  S : St
  old : Nat → Prop
  hlt0 : ∀ b, old b → b < w.heap.size
def B0.heap (b : B0) : Array Obj := b.w.heap

/-- A later world in which the old blocks stand as they stood. -/
structure BelowP (old : Nat → Prop) (w w' : World) : Prop where
  os : w'.os = w.os
  tape : w'.tape = w.tape
  output : w'.output = w.output
  size : w.heap.size ≤ w'.heap.size
  block : ∀ k, old k → w'.heap[k]? = w.heap[k]?
theorem BelowP.refl (old : Nat → Prop) (w : World) : BelowP old w w := ⟨rfl, rfl, rfl, Nat.le_refl _, fun _ _ => rfl⟩
theorem BelowP.trans {old : Nat → Prop} {a b c : World} (h : BelowP old a b) (k : BelowP old b c) : BelowP old a c :=
  ⟨k.os.trans h.os, k.tape.trans h.tape, k.output.trans h.output, Nat.le_trans h.size k.size, fun b hb => (k.block b hb).trans (h.block b hb)⟩
theorem BelowP.of {old : Nat → Prop} {B : Nat} {w w' : World} (h : Below B w w') (ho : ∀ k, old k → k < B) : BelowP old w w' := ⟨h.os, h.tape, h.output, h.size, fun k hk => h.block k (ho k hk)⟩
theorem BelowP.below {B : Nat} {w w' : World} (h : BelowP (· < B) w w') : Below B w w' := ⟨h.os, h.tape, h.output, h.size, fun k hk => h.block k hk⟩

structure HR (w0 : B0) (β : Bt) (S : St) (blk : Bk) (w : World) : Prop where
  hblk : ∀ id k, blk id = some k → ∃ bi, β id = some bi ∧ BR β S w bi k ∧ (k.live = true → ¬ w0.old bi.b)
  hdom : ∀ id bi, β id = some bi → ∃ k, blk id = some k
  hinj : ∀ i j bi bj ki kj, i ≠ j → blk i = some ki → ki.live = true → blk j = some kj → kj.live = true → β i = some bi → β j = some bj → bi.b ≠ bj.b
  hold : ∀ b o, w0.S b o → S b o
  hnew : ∀ b o, S b o → w0.old b → w0.S b o
  hlt : ∀ b o, S b o → b < w.heap.size
  hbelow : BelowP w0.old w0.w w

structure SR (w0 : B0) (nt : Nat) (β : Bt) (S : St) (s : AS) (a : Act) (w : World) : Prop where
  hh : HR w0 β S s.blk w
  henv : ∀ t x, s.env t = some x → VR β S w (a.tmps.getD t undef) x
  hsize : a.tmps.size = nt
  hdefers : a.defers = []

theorem CR.mono {β β' : Bt} {S S' : St} {w w' : World} (hb : ∀ id bi, β id = some bi → β' id = some bi)
    (hS : ∀ b o, S b o → S' b o ∧ w'.cell? ⟨b, o, none⟩ = w.cell? ⟨b, o, none⟩) {cs : Array Value} {o : Nat} {xs : List AV} (h : CR β S w cs o xs) : CR β' S' w' cs o xs :=
  fun j hj => ⟨(h j hj).1.mono hb hS, (h j hj).2⟩

theorem cell_lt {w w' : World} (hB : Below w.heap.size w w') {b o : Nat} (h : b < w.heap.size) : w'.cell? ⟨b, o, none⟩ = w.cell? ⟨b, o, none⟩ :=
  hB.cell (p := ⟨b, o, none⟩) h

theorem heap_lt {w : World} {b : Nat} {o : Obj} (h : w.heap[b]? = some o) : b < w.heap.size := (Array.getElem?_eq_some_iff.1 h).1

/-- A world in which nothing that was there has changed: all stands as it stood. -/
theorem BR.ext {β β' : Bt} {S S' : St} {w w' : World} {bi : BI} {k : AB} (hb : ∀ id bi, β id = some bi → β' id = some bi)
    (hS : ∀ b o, S b o → S' b o ∧ w'.cell? ⟨b, o, none⟩ = w.cell? ⟨b, o, none⟩) (hh : k.live = true → w'.heap[bi.b]? = w.heap[bi.b]?)
    (hn : k.live = true → ∀ o, S' bi.b o → S bi.b o) (h : BR β S w bi k) : BR β' S' w' bi k := by
  cases k with
  | bx p cells =>
    obtain ⟨cs, t, h1, h2, h3, h4⟩ := h
    exact ⟨cs, t, (hh rfl).trans h1, h2, h3.mono hb hS, fun o ho => h4.1 o (hn rfl o ho), h4.2⟩
  | ar p e es rows wr =>
    obtain ⟨h1, h2, cs, h3, h4, h5, h6, h7, h8, h9, h10⟩ := h
    exact ⟨h1, h2, cs, (hh rfl).trans h3, h4, h5, h6, fun i hi => ⟨(h7 i hi).1, (h7 i hi).2.mono (fun _ _ q => by cases q) hS⟩, fun hw o ho => h8 hw o (hn rfl o ho),
      fun hw o => ⟨fun ho => (h9 hw o).1 (hn rfl o ho), fun ho => (hS _ _ ((h9 hw o).2 ho)).1⟩, h10⟩
  | ro e es rows =>
    obtain ⟨h1, h2, h3, h4⟩ := h
    refine ⟨h1, h2, h3, fun i hi => ⟨(h4 i hi).1, fun j hj => ?_⟩⟩
    obtain ⟨q, v, h5, h6, h7⟩ := (h4 i hi).2 j hj
    exact ⟨(hS _ _ q).1, v, (hS _ _ q).2.trans h5, h6, h7.mono (fun _ _ q => by cases q) hS⟩
  | gone => exact trivial
  | rob cells =>
    intro j hj
    obtain ⟨q, v, h5, h6, h7⟩ := h j hj
    exact ⟨(hS _ _ q).1, v, (hS _ _ q).2.trans h5, h6, h7.mono (fun _ _ q => by cases q) hS⟩

theorem BR.lt {β : Bt} {S : St} {w : World} {bi : BI} {k : AB} (h : BR β S w bi k) (hl : k.live = true) : bi.b < w.heap.size := by
  cases k with
  | bx p cells => obtain ⟨cs, t, h1, _⟩ := h; exact heap_lt h1
  | ar p e es rows wr => obtain ⟨_, _, cs, h1, _⟩ := h; exact heap_lt h1
  | ro e es rows => cases hl
  | gone => cases hl
  | rob cells => cases hl

theorem HR.ext {w0 : B0} {w w' : World} {β : Bt} {S : St} {blk : Bk} (h : HR w0 β S blk w) (hB : Below w.heap.size w w') : HR w0 β S blk w' where
  hblk id k hk := by
    obtain ⟨bi, h1, h2, h3⟩ := h.hblk id k hk
    exact ⟨bi, h1, h2.ext (fun _ _ q => q) (fun b o q => ⟨q, cell_lt hB (h.hlt b o q)⟩) (fun hl => hB.block _ (h2.lt hl)) (fun _ _ q => q), h3⟩
  hdom := h.hdom
  hinj := h.hinj
  hold := h.hold
  hnew := h.hnew
  hlt b o q := Nat.lt_of_lt_of_le (h.hlt b o q) hB.size
  hbelow := h.hbelow.trans (.of hB fun k hk => Nat.lt_of_lt_of_le (w0.hlt0 k hk) h.hbelow.size)

theorem SR.vr_ext {w0 : B0} {w w' : World} {β : Bt} {S : St} {blk : Bk} (h : HR w0 β S blk w) (hB : Below w.heap.size w w') {v : Value} {x : AV} (hv : VR β S w v x) : VR β S w' v x :=
  hv.mono (fun _ _ q => q) (fun b o q => ⟨q, cell_lt hB (h.hlt b o q)⟩)

theorem SR.ext {w0 : B0} {w w' : World} {nt : Nat} {β : Bt} {S : St} {s : AS} {a : Act} (h : SR w0 nt β S s a w) (hB : Below w.heap.size w w') : SR w0 nt β S s a w' :=
  ⟨h.hh.ext hB, fun t x q => SR.vr_ext h.hh hB (h.henv t x q), h.hsize, h.hdefers⟩

def dOK (nt : Nat) : Option Nat → Bool
  | some d => Nat.blt d nt
  | none => true

theorem getD_set_same {α : Type} (xs : Array α) (i : Nat) (v d : α) (h : i < xs.size) : (xs.setIfInBounds i v).getD i d = v := by simp [Array.getD, h]
theorem getD_set_other {α : Type} (xs : Array α) {i j : Nat} (v d : α) (h : j ≠ i) : (xs.setIfInBounds i v).getD j d = xs.getD j d := by
  simp only [Array.getD_eq_getD_getElem?, Array.getElem?_setIfInBounds]
  rw [if_neg (fun e => h e.symm)]

theorem SR.put {w0 : B0} {w : World} {nt : Nat} {β : Bt} {S : St} {s : AS} {a : Act} (h : SR w0 nt β S s a w) {d : Option Nat} (hd : dOK nt d = true) {v : Value} {x : AV} (hv : VR β S w v x) :
    SR w0 nt β S (s.put d x) (a.put d v) w := by
  cases d with
  | none => exact ⟨h.hh, h.henv, h.hsize, h.hdefers⟩
  | some d =>
    have hlt : d < a.tmps.size := by rw [h.hsize]; simpa [dOK, Nat.blt_eq] using hd
    refine ⟨h.hh, ?_, by simp [Act.put, h.hsize], h.hdefers⟩
    intro t y hy
    by_cases e : t = d
    · subst e
      have : some x = some y := (upd_same s.env t x).symm.trans hy
      obtain rfl := Option.some.inj this
      simp only [Act.put]
      rw [getD_set_same _ _ _ _ hlt]; exact hv
    · have : s.env t = some y := (upd_other s.env x e).symm.trans hy
      simp only [Act.put]
      rw [getD_set_other _ _ _ e]; exact h.henv t y this

/-- A block more, in a world in which nothing that was there has changed. -/
theorem HR.new {w0 : B0} {w w' : World} {β : Bt} {S : St} {blk : Bk} (h : HR w0 β S blk w) (hB : Below w.heap.size w w') {id : Nat} (hid : blk id = none) {k : AB} {bi : BI} {S' : St}
    (hS : ∀ b o, S' b o ↔ S b o ∨ (w.heap.size ≤ b ∧ b < w'.heap.size ∧ S' b o)) (hb : w.heap.size ≤ bi.b)
    (hk : BR (upd β id bi) S' w' bi k) : HR w0 (upd β id bi) S' (upd blk id k) w' ∧ ∀ {v x}, VR β S w v x → VR (upd β id bi) S' w' v x := by
  have hβn : β id = none := by
    cases e : β id with
    | none => rfl
    | some b => obtain ⟨k, hk⟩ := h.hdom id b e; rw [hid] at hk; cases hk
  have hb' : ∀ i b, β i = some b → upd β id bi i = some b := by
    intro i b q
    by_cases e : i = id
    · subst e; rw [hβn] at q; cases q
    · rw [upd_other β bi e]; exact q
  have hSm : ∀ b o, S b o → S' b o ∧ w'.cell? ⟨b, o, none⟩ = w.cell? ⟨b, o, none⟩ := fun b o q => ⟨(hS b o).2 (.inl q), cell_lt hB (h.hlt b o q)⟩
  have hSl : ∀ b o, b < w.heap.size → S' b o → S b o := by
    intro b o hlt q
    rcases (hS b o).1 q with q | ⟨q, _⟩
    · exact q
    · omega
  have hgs : w0.heap.size ≤ w.heap.size := h.hbelow.size
  refine ⟨⟨?_, ?_, ?_, fun b o q => (hSm b o (h.hold b o q)).1, fun b o q hl => ((hS b o).1 q).elim (fun q => h.hnew b o q hl) (fun q => by have := w0.hlt0 b hl; have : w0.w.heap.size ≤ w.heap.size := hgs; omega), ?_, h.hbelow.trans (.of hB fun k hk => Nat.lt_of_lt_of_le (w0.hlt0 k hk) hgs)⟩, fun hv => hv.mono hb' hSm⟩
  · intro i kk q
    by_cases e : i = id
    · subst e
      have : some k = some kk := (upd_same blk i k).symm.trans q
      obtain rfl := Option.some.inj this
      exact ⟨bi, upd_same β i bi, hk, fun _ ho => by have := w0.hlt0 _ ho; have : w0.w.heap.size ≤ w.heap.size := hgs; omega⟩
    · rw [upd_other blk k e] at q
      obtain ⟨b2, h1, h2, h3⟩ := h.hblk i kk q
      exact ⟨b2, hb' i b2 h1, h2.ext hb' hSm (fun hl => hB.block _ (h2.lt hl)) (fun hl o q => hSl _ o (h2.lt hl) q), h3⟩
  · intro i b q
    by_cases e : i = id
    · subst e; exact ⟨k, upd_same blk i k⟩
    · rw [upd_other β bi e] at q
      obtain ⟨k2, hk2⟩ := h.hdom i b q
      exact ⟨k2, by rw [upd_other blk k e]; exact hk2⟩
  · intro i j b1 b2 k1 k2 hne q1 l1 q2 l2 p1 p2
    by_cases ei : i = id
    · subst ei
      have ej : j ≠ i := fun e => hne e.symm
      rw [upd_other blk k ej] at q2
      rw [upd_other β bi ej] at p2
      rw [upd_same] at p1
      obtain rfl := Option.some.inj p1
      obtain ⟨b3, h1, h2, _⟩ := h.hblk j k2 q2
      rw [p2] at h1
      obtain rfl := Option.some.inj h1
      have := h2.lt l2
      omega
    · rw [upd_other blk k ei] at q1
      rw [upd_other β bi ei] at p1
      by_cases ej : j = id
      · subst ej
        rw [upd_same] at p2
        obtain rfl := Option.some.inj p2
        obtain ⟨b3, h1, h2, _⟩ := h.hblk i k1 q1
        rw [p1] at h1
        obtain rfl := Option.some.inj h1
        have := h2.lt l1
        omega
      · rw [upd_other blk k ej] at q2
        rw [upd_other β bi ej] at p2
        exact h.hinj i j b1 b2 k1 k2 hne q1 l1 q2 l2 p1 p2
  · intro b o q
    rcases (hS b o).1 q with q | ⟨_, q, _⟩
    · exact Nat.lt_of_lt_of_le (h.hlt b o q) hB.size
    · exact q

end Go.Aw
