/-
  Parts of states; what an operation does told by a part of the state; one function for all plain operations.
-/
import Derived.Test.YtpnjflimilamdaaGreatAw13
namespace Go.Aw
open Go.RowKit

section
variable {P : Program} {ty : Ty} {w0 : B0} {nt : Nat} {s s' t' : AS} {ops : Array Oper} {l : List Oper} {o : Oper} {K : AS → Prop} {C : Exit → AS → Prop} {d : Option Nat} {t : TypeId} {pos : String} {af : Array Edge} {g : Option (Nat × Bool)}

/-- A part of a state. -/
def AS.le (s t : AS) : Prop := (∀ u x, s.env u = some x → t.env u = some x) ∧ (∀ i k, s.blk i = some k → t.blk i = some k)
theorem AS.le_refl (s : AS) : s.le s := ⟨fun _ _ h => h, fun _ _ h => h⟩

def setBs (b : Bk) : List (Nat × AB) → Bk
  | [] => b
  | (i, k) :: l => setBs (upd b i k) l
def AS.eff (s : AS) (d : Option Nat) (v : AV) (bs : List (Nat × AB)) : AS := (⟨s.env, setBs s.blk bs⟩ : AS).put d v

/-- What an operation does, told by a part of the state. -/
def MStep (P : Program) (w0 : B0) (nt : Nat) (o : Oper) (s : AS) (v : AV) (bs : List (Nat × AB)) : Prop :=
  ∀ t, s.le t → (∀ p ∈ bs, s.blk p.1 = none → t.blk p.1 = none) → OkOp P w0 nt o t (t.eff o.dst v bs)

theorem MStep.ok {v : AV} {bs : List (Nat × AB)} (h : MStep P w0 nt o s v bs) : OkOp P w0 nt o s (s.eff o.dst v bs) := h s s.le_refl (fun _ _ q => q)
theorem WL_m {v : AV} {bs : List (Nat × AB)} (hg : o.guard = none) (h : MStep P w0 nt o s v bs) (r : WL P w0 nt ops l (s.eff o.dst v bs) K) : WL P w0 nt ops (o :: l) s K := WL_cons hg h.ok r

theorem evO_mono (h : s.le t') {x : Operand} {v : AV} (hx : evO s x = some v) : evO t' x = some v := by
  cases x with
  | tmp u => exact h.1 u v hx
  | _ => exact hx

theorem behind_mono (h : s.le t') {p : AV} {n : Nat} {cs : List AV} (hb : behind s.blk n p = some cs) : behind t'.blk n p = some cs := by
  cases p <;> simp only [behind] at hb ⊢ <;> try exact hb
  · split at hb
    · rename_i cells hk; rw [h.2 _ _ hk]; exact hb
    · rename_i cells hk; rw [h.2 _ _ hk]; exact hb
    · cases hb
  · split at hb
    · rename_i hk; rw [h.2 _ _ hk]; exact hb
    · rename_i hk; rw [h.2 _ _ hk]; exact hb
    · cases hb

theorem lenV_mono (h : s.le t') {p : AV} {n : Nat} (hb : lenV s.blk p = some n) : lenV t'.blk p = some n := by
  cases p <;> simp only [lenV] at hb ⊢ <;> try exact hb
  split at hb
  · rename_i hk; rw [h.2 _ _ hk]; exact hb
  · rename_i hk; rw [h.2 _ _ hk]; exact hb
  · cases hb

theorem srcRows_mono (h : s.le t') {p : AV} {r : Nat × List (List AV)} (hb : srcRows s.blk p = some r) : srcRows t'.blk p = some r := by
  cases p <;> simp only [srcRows] at hb ⊢ <;> try exact hb
  split at hb
  · rename_i hk; rw [h.2 _ _ hk]; exact hb
  · rename_i hk; rw [h.2 _ _ hk]; exact hb
  · cases hb

theorem argS_mono (h : s.le t') {p q : AV} (hb : argS s.blk p = some q) : argS t'.blk p = some q := by
  cases p <;> simp only [argS] at hb ⊢ <;> try exact hb
  · split at hb
    · rename_i hk; rw [h.2 _ _ hk]; exact hb
    · cases hb
  · split at hb
    · rename_i hk; rw [h.2 _ _ hk]; exact hb
    · rename_i hk; rw [h.2 _ _ hk]; exact hb
    · cases hb

theorem argSs_mono (h : s.le t') : ∀ {p q : List AV}, argSs s.blk p = some q → argSs t'.blk p = some q
  | [], q, hb => hb
  | x :: l, q, hb => by
    simp only [argSs] at hb ⊢
    split at hb
    · rename_i y r e1 e2
      rw [argS_mono h e1, argSs_mono h e2]; exact hb
    · cases hb

theorem argV_mono (h : s.le t') {p q : AV} (hb : argV s.blk p = some q) : argV t'.blk p = some q := by
  by_cases e : ∃ cs, p = .agg cs
  · obtain ⟨cs, rfl⟩ := e
    simp only [argV] at hb ⊢
    split at hb
    · rename_i cs' e1; rw [argSs_mono h e1]; exact hb
    · cases hb
  · have e1 : ∀ b, argV b p = argS b p := fun b => by cases p <;> first | rfl | exact absurd ⟨_, rfl⟩ e
    rw [e1] at hb ⊢; exact argS_mono h hb

theorem evArgs_mono (h : s.le t') : ∀ {l : List Operand} {xs : List AV}, evArgs s l = some xs → evArgs t' l = some xs
  | [], xs, hb => hb
  | x :: l, xs, hb => by
    simp only [evArgs] at hb ⊢
    split at hb
    · rename_i v hv
      rw [evO_mono h hv]
      simp only
      split at hb
      · rename_i y r e1 e2
        rw [argV_mono h e1, evArgs_mono h e2]; exact hb
      · cases hb
    · cases hb

theorem evParts_mono (h : s.le t') : ∀ {l : List (Nat × Operand)} {xs : List (Nat × AV)}, evParts s l = some xs → evParts t' l = some xs
  | [], xs, hb => hb
  | (i, x) :: l, xs, hb => by
    simp only [evParts] at hb ⊢
    split at hb
    · rename_i v r e1 e2
      rw [evO_mono h e1, evParts_mono h e2]; exact hb
    · cases hb

/-- A new block: under its slot's own number, or one beside it. -/
def withId (blk : Bk) (d : Nat) (f : Nat → Option (AV × List (Nat × AB))) : Option (AV × List (Nat × AB)) := match blk d with
  | none => f d
  | some _ => match blk (d + 10000) with
    | none => f (d + 10000)
    | some _ => match blk (d + 20000) with
      | none => f (d + 20000)
      | some _ => none

theorem withId_ok {blk : Bk} {d : Nat} {f : Nat → Option (AV × List (Nat × AB))} {e : AV × List (Nat × AB)} (h : withId blk d f = some e) : ∃ id, blk id = none ∧ f id = some e := by
  unfold withId at h
  split at h
  · exact ⟨_, by assumption, h⟩
  · split at h
    · exact ⟨_, by assumption, h⟩
    · split at h
      · exact ⟨_, by assumption, h⟩
      · cases h

def kEq : IntKind → IntKind → Bool
  | .i64, .i64 => true
  | .u8, .u8 => true
  | .u64, .u64 => true
  | .i32, .i32 => true
  | .u32, .u32 => true
  | _, _ => false
theorem kEq_eq {a b : IntKind} (h : kEq a b = true) : a = b := by cases a <;> cases b <;> first | rfl | cases h

def arith (op : BinOp) (k : IntKind) (a b : Int) : Option AV := match op with
  | .add => some (.int k (k.wrap (a + b)))
  | .sub => some (.int k (k.wrap (a - b)))
  | .mul => some (.int k (k.wrap (a * b)))
  | _ => none

theorem arith_bin {op : BinOp} {k : IntKind} {a b : Int} {v : AV} (h : arith op k a b = some v) : binI op k a b = some v := by cases op <;> first | exact h | cases h


theorem ok_rowL (hty : TyOK P ty) {u e n : Nat} {ui ei : TI} {parts : Array (Nat × Operand)} {xs : List (Nat × AV)} {rows : List (List AV)} (hui : ty u = some ui) (hd1 : ui.desc = .slice e) (hei : ty e = some ei)
    (hp : evParts s parts.toList = some xs) (hb : rowsA n ei.size 0 xs = some rows) (hsm : Nat.ble (n * ei.size) 1000 = true) (hd : dOK nt d = true) :
    OkOp P w0 nt ⟨d, .buildSlice u n parts, t, pos, af, g⟩ s (s.put d (.lst ei.size rows true)) := by
  intro β S a w next Q hs hn
  obtain ⟨cs', hr, r2, hrn, r4⟩ := bs_run (d := d) (t := t) (pos := pos) (af := af) (g := g) hty hs hui hd1 hei hp hb hsm
  unfold Oper.wp
  rw [hr]
  have hB := below_alloc1 w (.cells cs' e)
  have hS : ∀ b o, S b o → b < w.heap.size := hs.hh.hlt
  obtain ⟨h1, h2⟩ := hs.hh.extS (S' := fun b o => S b o ∨ b = w.heap.size) hB (fun b o q => .inl q) (fun b o q hl => q.resolve_right (fun e => by omega))
    (fun b o q => by
      rcases q with q | q
      · exact Nat.lt_of_lt_of_le (hS b o q) hB.size
      · rw [q]; simp)
  have hs2 : SR w0 nt β (fun b o => S b o ∨ b = w.heap.size) s a (w.alloc (.cells cs' e)) := ⟨h1, fun v x q => h2 (hs.henv v x q), hs.hsize, hs.hdefers⟩
  refine hn _ _ _ _ (hs2.put hd ?_)
  have hcell : ∀ i j, i < n → j < ei.size → (w.alloc (.cells cs' e)).cell? ⟨w.heap.size, 0 + i * ei.size + j, none⟩ = some (cs'.getD (i * ei.size + j) undef) := by
    intro i j hi hj
    have hlt : i * ei.size + j < cs'.size := by
      rw [r2]
      have : (i + 1) * ei.size ≤ n * ei.size := Nat.mul_le_mul_right _ (by omega)
      rw [Nat.add_mul] at this
      omega
    rw [Nat.zero_add]
    unfold World.cell?
    simp only
    rw [heap_alloc_new w (.cells cs' e)]
    simp [Array.getD, hlt]
  refine .lst w.heap.size 0 n n ei.size rows true (fun i j => cs'.getD (i * ei.size + j) undef) hrn (Nat.le_refl _) (fun _ => rfl) (fun i hi => (r4 i (by omega)).1) (fun i j hi hj => ⟨.inr rfl, hcell i j hi hj, ?_⟩) (fun i j hi hj => ?_)
  · have := r4 i (by omega)
    exact (this.2 j (by omega)).2
  · have := r4 i (by omega)
    exact (this.2 j (by omega)).1.mono (fun _ _ q => by cases q) (fun b o q => ⟨.inl q, cell_lt hB (hS b o q)⟩)

abbrev Ef := AV × List (Nat × AB)

def ePick (s : AS) (c x y : Operand) : Option Ef :=
  (evO s c).bind fun v => match v with
    | .bool true => (evO s x).bind fun v => some (v, [])
    | .bool false => (evO s y).bind fun v => some (v, [])
    | _ => none

def eField (ty : Ty) (s : AS) (st : Nat) (x : Operand) (f : Nat) : Option Ef :=
  (ty st).bind fun si => match si.desc with
    | .struct fs => (fs[f]?).bind fun q => (ty q.2).bind fun fi => match Nat.blt 0 fi.size with
      | true => (evO s x).bind fun p => (mvP q.1 p).bind fun q => some (q, [])
      | false => none
    | _ => none

def eLoad (ty : Ty) (s : AS) (u : Nat) (x : Operand) : Option Ef :=
  (ty u).bind fun i => (evO s x).bind fun p => match i.desc.isAgg with
    | false => (behind s.blk 1 p).bind fun cs => match cs with
      | [v] => some (v, [])
      | _ => none
    | true => (behind s.blk i.size p).bind fun cs => match Nat.beq cs.length i.size with
      | true => (forceL cs).bind fun cs' => some (.agg cs', [])
      | false => none

def eAlloc (ty : Ty) (s : AS) (d : Nat) (u : Nat) : Option Ef :=
  (ty u).bind fun i => withId s.blk d fun id => some (.ptr id 0, [(id, .box i.zero)])

def eBox (s : AS) (d : Nat) (x : Operand) : Option Ef :=
  (evO s x).bind fun v => (cellsV v).bind fun cs => withId s.blk d fun id => some (.ptr id 0, [(id, .box cs)])

def eStore (ty : Ty) (s : AS) (u : Nat) (x y : Operand) : Option Ef :=
  (ty u).bind fun i => (evO s x).bind fun p => match p with
    | .ptr id off => (evO s y).bind fun v => (s.blk id).bind fun k => match k with
      | .bx pin cells => (cellsV v).bind fun vs => match Nat.beq vs.length i.size with
        | true => match Nat.ble (off + vs.length) cells.length with
          | true => (forceL (setAt cells off vs)).bind fun cells' => some (.any, [(id, .bx pin cells')])
          | false => none
        | false => none
      | _ => none
    | _ => none

def eNot (s : AS) (x : Operand) : Option Ef :=
  (evO s x).bind fun v => match v with
    | .bool b => some (.bool (!b), [])
    | _ => none

def eBin (s : AS) (op : BinOp) (x y : Operand) : Option Ef :=
  (evO s x).bind fun v => match v with
    | .int k a => (evO s y).bind fun v => match v with
      | .int k' b => match kEq k k' with
        | true => (arith op k a b).bind fun v => some (v, [])
        | false => none
      | _ => none
    | _ => none

def eExtract (s : AS) (x : Operand) (i : Nat) : Option Ef :=
  (evO s x).bind fun v => match v with
    | .tup vs => (vs[i]?).bind fun v => some (v, [])
    | _ => none

def eNil (s : AS) (x : Operand) : Option Ef :=
  (evO s x).bind fun p => (mvP 0 p).bind fun _ => some (p, [])

def eBuild (ty : Ty) (s : AS) (u : Nat) (parts : Array (Nat × Operand)) : Option Ef :=
  (ty u).bind fun i => (evParts s parts.toList).bind fun xs => match i.desc with
    | .struct _ => (bldA (fun k => i.pl[k]?) i.zero xs).bind fun cells => some (.agg cells, [])
    | _ => none

def eRow (ty : Ty) (s : AS) (_d : Nat) (u n : Nat) (parts : Array (Nat × Operand)) : Option Ef :=
  (ty u).bind fun ui => match ui.desc with
    | .slice e => (ty e).bind fun ei => (evParts s parts.toList).bind fun xs => (rowsA n ei.size 0 xs).bind fun rows => match Nat.ble (n * ei.size) 1000 with
      | true => match Nat.blt 0 ei.size with
        | true => some (.lst ei.size rows true, [])
        | false => none
      | false => none
    | _ => none

def eLen (ty : Ty) (s : AS) (u : Nat) (x : Operand) : Option Ef :=
  (ty u).bind fun ui => match ui.desc with
    | .slice _ => (evO s x).bind fun p => match (match p with | .str _ => false | _ => true) with
      | true => (lenV s.blk p).bind fun n => some (.int .i64 n, [])
      | false => none
    | _ => none

def eCall (ty : Ty) (s : AS) (c : Call) : Option Ef := match c.callee, c.args.toList, c.argTypes.toList with
  | .builtin .len, [x], [u] => eLen ty s u x
  | _, _, _ => none

/-- Plain operations. -/
def stepE (ty : Ty) (s : AS) (o : Oper) : Option Ef := match o.op, o.dst with
  | .move x, _ => (evO s x).bind fun v => some (v, [])
  | .assign x, _ => (evO s x).bind fun v => some (v, [])
  | .pick c x y, _ => ePick s c x y
  | .fieldAddr st x f, _ => eField ty s st x f
  | .load u x, _ => eLoad ty s u x
  | .alloc u, some d => eAlloc ty s d u
  | .box _ x, some d => eBox s d x
  | .store u x y, none => eStore ty s u x y
  | .unOp .not _ x, _ => eNot s x
  | .binOp op _ x y _, _ => eBin s op x y
  | .extract x i, _ => eExtract s x i
  | .nilCheck x, _ => eNil s x
  | .build u parts, _ => eBuild ty s u parts
  | .buildSlice u n parts, some d => eRow ty s d u n parts
  | .call c, _ => eCall ty s c
  | _, _ => none

theorem eCall_ok {c : Call} {e : Ef} (hty : TyOK P ty) (hd : dOK nt d = true) (h : eCall ty s c = some e) : MStep P w0 nt ⟨d, .call c, t, pos, af, g⟩ s e.1 e.2 := by
  obtain ⟨callee, args, argTypes⟩ := c
  unfold eCall at h
  intro t2 hle hfr
  split at h
  · rename_i x u hc hx hu
    subst hc
    obtain ⟨ui, h1, h2⟩ := Option.bind_eq_some_iff.1 h
    split at h2
    · rename_i e hds
      obtain ⟨p, h3, h4⟩ := Option.bind_eq_some_iff.1 h2
      split at h4
      · rename_i hp
        obtain ⟨n, h5, h6⟩ := Option.bind_eq_some_iff.1 h4
        obtain rfl := Option.some.inj h6
        obtain ⟨_, _, _, hU⟩ := hty.get h1
        obtain rfl : args = #[x] := by cases args; simp_all
        obtain rfl : argTypes = #[u] := by cases argTypes; simp_all
        refine ok_len (hU.slice hds) (evO_mono hle h3) (lenV_mono hle h5) ?_ hd
        cases p <;> first | rfl | exact hp
      · cases h4
    · cases h2
  · cases h

theorem stepE_ok {e : Ef} (hty : TyOK P ty) (hd : dOK nt o.dst = true) (h : stepE ty s o = some e) : MStep P w0 nt o s e.1 e.2 := by
  obtain ⟨d, op, t, pos, af, g⟩ := o
  unfold stepE at h
  simp only at h hd
  intro t2 hle hfr
  split at h
  · obtain ⟨v, h1, h2⟩ := Option.bind_eq_some_iff.1 h
    obtain rfl := Option.some.inj h2
    exact ok_move (evO_mono hle h1) hd
  · obtain ⟨v, h1, h2⟩ := Option.bind_eq_some_iff.1 h
    obtain rfl := Option.some.inj h2
    exact ok_assign (evO_mono hle h1) hd
  · obtain ⟨v, h1, h2⟩ := Option.bind_eq_some_iff.1 h
    split at h2
    · obtain ⟨v, h3, h4⟩ := Option.bind_eq_some_iff.1 h2
      obtain rfl := Option.some.inj h4
      exact ok_pick (evO_mono hle h1) (by simpa using evO_mono hle h3) hd
    · obtain ⟨v, h3, h4⟩ := Option.bind_eq_some_iff.1 h2
      obtain rfl := Option.some.inj h4
      exact ok_pick (evO_mono hle h1) (by simpa using evO_mono hle h3) hd
    · cases h2
  · obtain ⟨si, h1, h2⟩ := Option.bind_eq_some_iff.1 h
    split at h2
    · rename_i fs hfs
      obtain ⟨⟨off, ft⟩, h3, h4⟩ := Option.bind_eq_some_iff.1 h2
      obtain ⟨fi, h5, h6⟩ := Option.bind_eq_some_iff.1 h4
      split at h6
      · rename_i hn
        obtain ⟨p, h7, h8⟩ := Option.bind_eq_some_iff.1 h6
        obtain ⟨q, h9, h10⟩ := Option.bind_eq_some_iff.1 h8
        obtain rfl := Option.some.inj h10
        exact ok_fieldAddr hty h1 hfs h3 h5 hn (evO_mono hle h7) h9 hd
      · cases h6
    · cases h2
  · obtain ⟨i, h1, h2⟩ := Option.bind_eq_some_iff.1 h
    obtain ⟨p, h3, h4⟩ := Option.bind_eq_some_iff.1 h2
    split at h4
    · rename_i ha
      obtain ⟨cs, h5, h6⟩ := Option.bind_eq_some_iff.1 h4
      split at h6
      · obtain rfl := Option.some.inj h6
        exact ok_load1 hty h1 ha (evO_mono hle h3) (behind_mono hle h5) hd
      · cases h6
    · rename_i ha
      obtain ⟨cs, h5, h6⟩ := Option.bind_eq_some_iff.1 h4
      split at h6
      · rename_i hl
        obtain ⟨cs', h7, h8⟩ := Option.bind_eq_some_iff.1 h6
        obtain rfl := Option.some.inj h8
        obtain rfl := forceL_eq h7
        exact ok_loadN hty h1 ha (evO_mono hle h3) (behind_mono hle h5) hl hd
      · cases h6
  · obtain ⟨i, h1, h2⟩ := Option.bind_eq_some_iff.1 h
    obtain ⟨id, hid, h2⟩ := withId_ok h2
    obtain rfl := Option.some.inj h2
    exact ok_alloc hty _ h1 (hfr (_, _) (List.mem_singleton.2 rfl) hid) hd
  · obtain ⟨v, h1, h2⟩ := Option.bind_eq_some_iff.1 h
    obtain ⟨cs, h3, h4⟩ := Option.bind_eq_some_iff.1 h2
    obtain ⟨id, hid, h4⟩ := withId_ok h4
    obtain rfl := Option.some.inj h4
    exact ok_box _ (hfr (_, _) (List.mem_singleton.2 rfl) hid) (evO_mono hle h1) h3 hd
  · obtain ⟨i, h1, h2⟩ := Option.bind_eq_some_iff.1 h
    obtain ⟨p, h3, h4⟩ := Option.bind_eq_some_iff.1 h2
    split at h4
    · obtain ⟨v, h5, h6⟩ := Option.bind_eq_some_iff.1 h4
      obtain ⟨k, h7, h8⟩ := Option.bind_eq_some_iff.1 h6
      split at h8
      · obtain ⟨vs, h9, h10⟩ := Option.bind_eq_some_iff.1 h8
        split at h10
        · rename_i hl
          split at h10
          · rename_i ho
            obtain ⟨cells', h11, h12⟩ := Option.bind_eq_some_iff.1 h10
            obtain rfl := Option.some.inj h12
            exact ok_storeB hty h1 (evO_mono hle h3) (evO_mono hle h5) (hle.2 _ _ h7) h9 hl ho h11
          · cases h10
        · cases h10
      · cases h8
    · cases h4
  · obtain ⟨v, h1, h2⟩ := Option.bind_eq_some_iff.1 h
    split at h2
    · obtain rfl := Option.some.inj h2
      exact ok_not (evO_mono hle h1) hd
    · cases h2
  · obtain ⟨v, h1, h2⟩ := Option.bind_eq_some_iff.1 h
    split at h2
    · obtain ⟨v, h3, h4⟩ := Option.bind_eq_some_iff.1 h2
      split at h4
      · split at h4
        · rename_i hk
          obtain ⟨v, h5, h6⟩ := Option.bind_eq_some_iff.1 h4
          obtain rfl := Option.some.inj h6
          obtain rfl := kEq_eq hk
          exact ok_binI (evO_mono hle h1) (evO_mono hle h3) (arith_bin h5) hd
        · cases h4
      · cases h4
    · cases h2
  · obtain ⟨v, h1, h2⟩ := Option.bind_eq_some_iff.1 h
    split at h2
    · obtain ⟨v, h3, h4⟩ := Option.bind_eq_some_iff.1 h2
      obtain rfl := Option.some.inj h4
      exact ok_extract (evO_mono hle h1) h3 hd
    · cases h2
  · obtain ⟨p, h1, h2⟩ := Option.bind_eq_some_iff.1 h
    obtain ⟨q, h3, h4⟩ := Option.bind_eq_some_iff.1 h2
    obtain rfl := Option.some.inj h4
    exact ok_nilCheck (evO_mono hle h1) (by rw [h3]; rfl) hd
  · obtain ⟨i, h1, h2⟩ := Option.bind_eq_some_iff.1 h
    obtain ⟨xs, h3, h4⟩ := Option.bind_eq_some_iff.1 h2
    split at h4
    · rename_i hds
      obtain ⟨cells, h5, h6⟩ := Option.bind_eq_some_iff.1 h4
      obtain rfl := Option.some.inj h6
      exact ok_build hty h1 hds (evParts_mono hle h3) h5 hd
    · cases h4
  · obtain ⟨ui, h1, h2⟩ := Option.bind_eq_some_iff.1 h
    split at h2
    · rename_i e hds
      obtain ⟨ei, h3, h4⟩ := Option.bind_eq_some_iff.1 h2
      obtain ⟨xs, h5, h6⟩ := Option.bind_eq_some_iff.1 h4
      obtain ⟨rows, h7, h8⟩ := Option.bind_eq_some_iff.1 h6
      split at h8
      · rename_i hsm
        split at h8
        · obtain rfl := Option.some.inj h8
          exact ok_rowL hty h1 hds h3 (evParts_mono hle h5) h7 hsm hd
        · cases h8
      · cases h8
    · cases h2
  · exact eCall_ok hty hd h t2 hle hfr
  · cases h

theorem WL_p {op : Op} {v : AV} {bs : List (Nat × AB)} (hty : TyOK P ty) (hd : dOK nt d = true) (h : stepE ty s ⟨d, op, t, pos, af, none⟩ = some (v, bs)) (r : WL P w0 nt ops l (s.eff d v bs) K) : WL P w0 nt ops (⟨d, op, t, pos, af, none⟩ :: l) s K :=
  WL_m rfl (stepE_ok (e := (v, bs)) hty hd h) r

end
end Go.Aw
