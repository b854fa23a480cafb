/-
  The walk's rules, one an operation: what it does to a state.
-/
import Derived.Test.YtpnjflimilamdaaGreatAw2
namespace Go.Aw
open Go.RowKit

inductive Desc where
  | scalar
  | struct (fs : List (Nat × Nat))
  | slice (e : Nat)
  | array (n e : Nat)

/-- What the walk knows of a type. -/
structure TI where
  size : Nat
  bytes : Nat
  desc : Desc
  zero : List AV
  pl : List (Nat × Nat)

def descOK (d : TypeDesc) : Desc → Bool
  | .scalar => match d with | .struct _ => false | .array _ _ => false | _ => true
  | .struct fs => match d with | .struct f => f.toList.map (fun g => (g.offset, g.type)) == fs | _ => false
  | .slice e => match d with | .slice e' => Nat.beq e e' | _ => false
  | .array n e => match d with | .array n' e' => Nat.beq n n' && Nat.beq e e' | _ => false

def okZ : Value → AV → Bool
  | .int k n, .int k' n' => decide (k = k') && decide (n = n')
  | .bool b, .bool b' => b == b'
  | .string s, .str s' => decide (s = s')
  | .pointer none, .nilp => true
  | .nilFunc, .nilf => true
  | .slice none 0 0, .lst _ [] _ => true
  | _, .any => true
  | _, _ => false

def zerosOK : List Value → List AV → Bool
  | [], [] => true
  | v :: vs, x :: xs => okZ v x && v.oneCell' && zerosOK vs xs
  | _, _ => false

def placesOf (P : Program) : TypeDesc → Option (List (Nat × Nat))
  | .struct fields => fields.toList.mapM (fun f => (P.info? f.type).map fun i => (f.offset, i.size))
  | _ => some []

def tiOK (P : Program) (t : Nat) (i : TI) : Bool := match P.info? t, P.underlying t with
  | some ci, some d => Nat.beq ci.size i.size && Nat.beq ci.bytes i.bytes && (placesOf P d == some i.pl) && descOK d i.desc && (match ci.zero with | some z => zerosOK z.cells.toList i.zero && Nat.beq z.cells.size i.size && (match i.desc with | .struct _ => (match z with | .agg _ => true | _ => false) | .scalar => z.oneCell' | .slice _ => z.oneCell' | .array _ _ => (match z with | .agg _ => true | _ => false)) | none => false)
  | _, _ => false

abbrev Ty := Nat → Option TI
def TyOK (P : Program) (ty : Ty) : Prop := ∀ t i, ty t = some i → tiOK P t i = true

theorem okZ_vr {β : Bt} {S : St} {w : World} : ∀ {v : Value} {x : AV}, okZ v x = true → VR β S w v x := by
  intro v x h
  unfold okZ at h
  split at h
  · simp at h; obtain ⟨rfl, rfl⟩ := h; exact .int _ _
  · simp at h; subst h; exact .bool _
  · simp at h; subst h; exact .str _
  · exact .nilp
  · exact .nilf
  · exact .lst0 _ _
  · exact .any _
  · cases h

theorem zerosOK_at {β : Bt} {S : St} {w : World} : ∀ {vs : List Value} {xs : List AV}, zerosOK vs xs = true → vs.length = xs.length ∧ ∀ j, j < xs.length → VR β S w (vs.getD j undef) (xs.getD j .any) ∧ (vs.getD j undef).oneCell' = true
  | [], [], _ => ⟨rfl, fun j hj => by simp at hj⟩
  | [], _ :: _, h => by simp [zerosOK] at h
  | _ :: _, [], h => by simp [zerosOK] at h
  | v :: vs, x :: xs, h => by
    simp only [zerosOK, Bool.and_eq_true] at h
    obtain ⟨h1, h2⟩ := zerosOK_at (β := β) (S := S) (w := w) h.2
    refine ⟨by simp [h1], fun j hj => ?_⟩
    cases j with
    | zero => exact ⟨okZ_vr h.1.1, h.1.2⟩
    | succ j => simpa using h2 j (by simpa using hj)

/-- What a type's row in the table says of the program. -/
structure TIs (P : Program) (t : Nat) (i : TI) (ci : TypeInfo) (d : TypeDesc) (z : Value) : Prop where
  info : P.info? t = some ci
  und : P.underlying t = some d
  size : ci.size = i.size
  bytes : ci.bytes = i.bytes
  pls : placesOf P d = some i.pl
  desc : descOK d i.desc = true
  zero : ci.zero = some z
  zs : zerosOK z.cells.toList i.zero = true
  zsize : z.cells.size = i.size

theorem TyOK.get {P : Program} {ty : Ty} (h : TyOK P ty) {t : Nat} {i : TI} (ht : ty t = some i) : ∃ ci d z, TIs P t i ci d z := by
  have := h t i ht
  unfold tiOK at this
  split at this
  · rename_i ci d h1 h2
    simp only [Bool.and_eq_true] at this
    obtain ⟨⟨⟨⟨a, b⟩, b2⟩, c⟩, e⟩ := this
    split at e
    · rename_i z hz
      simp only [Bool.and_eq_true] at e
      exact ⟨ci, d, z, h1, h2, Nat.eq_of_beq_eq_true a, Nat.eq_of_beq_eq_true b, by simpa using b2, c, hz, e.1.1, Nat.eq_of_beq_eq_true e.1.2⟩
    · cases e
  · cases this

theorem TIs.slice {P : Program} {t e : Nat} {i : TI} {ci : TypeInfo} {d : TypeDesc} {z : Value} (h : TIs P t i ci d z) (hd : i.desc = .slice e) : P.underlying t = some (.slice e) := by
  have := h.desc
  rw [hd] at this
  cases d <;> simp [descOK] at this
  subst this
  exact h.und

theorem TIs.struct {P : Program} {t : Nat} {fs : List (Nat × Nat)} {i : TI} {ci : TypeInfo} {d : TypeDesc} {z : Value} (h : TIs P t i ci d z) (hd : i.desc = .struct fs) :
    ∃ f : Array Field, P.underlying t = some (.struct f) ∧ f.toList.map (fun g => (g.offset, g.type)) = fs := by
  have := h.desc
  rw [hd] at this
  cases d <;> simp [descOK] at this
  exact ⟨_, h.und, this⟩

def ofVal : Value → Option AV
  | .int k n => some (.int k n)
  | .bool b => some (.bool b)
  | .string s => some (.str s)
  | .pointer none => some .nilp
  | .nilFunc => some .nilf
  | .slice none 0 0 => some (.lst 0 [] true)
  | _ => none

def evO (s : AS) : Operand → Option AV
  | .tmp t => s.env t
  | .const v => ofVal v
  | .func f => some (.fn (.func f) [] [])
  | .global _ => none

theorem evO_ok {w0 : B0} {w : World} {nt : Nat} {β : Bt} {S : St} {s : AS} {a : Act} (h : SR w0 nt β S s a w) {x : Operand} {v : AV} (hx : evO s x = some v) : VR β S w (a.eval x) v := by
  cases x with
  | tmp t => exact h.henv t v hx
  | const c =>
    have hx : ofVal c = some v := hx
    unfold ofVal at hx
    split at hx <;> first | (cases hx; done) | (obtain rfl := Option.some.inj hx; first | exact .int _ _ | exact .bool _ | exact .str _ | exact .nilp | exact .nilf | exact .lst0 _ _)
  | func f => obtain rfl := Option.some.inj hx; exact .fn _ _ _ _ _ rfl rfl (fun j hj => by simp at hj) (fun j hj => by simp at hj)
  | global g => cases hx

/-- An operation takes a state to a state. -/
def OkOp (P : Program) (w0 : B0) (nt : Nat) (o : Oper) (s s' : AS) : Prop :=
  ∀ β S a w next Q, SR w0 nt β S s a w → (∀ β' S' a' w', SR w0 nt β' S' s' a' w' → next a' w') → o.wp P a w next Q

section
variable {P : Program} {ty : Ty} {w0 : B0} {nt : Nat} {s : AS} {d : Option Nat} {t : TypeId} {pos : String} {af : Array Edge} {g : Option (Nat × Bool)}

/-- An operation that only tells a value. -/
theorem ok_value {op : Op} {x : AV} (hd : dOK nt d = true)
    (h : ∀ β S a w, SR w0 nt β S s a w → ∃ v, (execOp a.eval ⟨d, op, t, pos, af, g⟩).run P w = .ok (.value v) w ∧ VR β S w v x) : OkOp P w0 nt ⟨d, op, t, pos, af, g⟩ s (s.put d x) := by
  intro β S a w next Q hs hn
  obtain ⟨v, hr, hv⟩ := h β S a w hs
  unfold Oper.wp
  rw [hr]
  exact hn _ _ _ _ (hs.put hd hv)

theorem ok_move {x : Operand} {v : AV} (hx : evO s x = some v) (hd : dOK nt d = true) : OkOp P w0 nt ⟨d, .move x, t, pos, af, g⟩ s (s.put d v) :=
  ok_value hd fun _ _ _ _ hs => ⟨_, rfl, evO_ok hs hx⟩
theorem ok_assign {x : Operand} {v : AV} (hx : evO s x = some v) (hd : dOK nt d = true) : OkOp P w0 nt ⟨d, .assign x, t, pos, af, g⟩ s (s.put d v) :=
  ok_value hd fun _ _ _ _ hs => ⟨_, rfl, evO_ok hs hx⟩

theorem ok_pick {c x y : Operand} {b : Bool} {v : AV} (hc : evO s c = some (.bool b)) (hx : (if b = true then evO s x else evO s y) = some v) (hd : dOK nt d = true) :
    OkOp P w0 nt ⟨d, .pick c x y, t, pos, af, g⟩ s (s.put d v) :=
  ok_value hd fun β S a w hs => by
    have h1 := evO_ok hs hc
    generalize hv : a.eval c = cv at h1
    cases h1
    refine ⟨if b = true then a.eval x else a.eval y, ?_, ?_⟩
    · simp [execOp, hv, asBool]
    · split at hx
      · rw [if_pos ‹_›]; exact evO_ok hs hx
      · rw [if_neg ‹_›]; exact evO_ok hs hx

theorem addr_add (b o n : Nat) : (⟨b, o, none⟩ : Addr).add n = ⟨b, o + n, none⟩ := by unfold Addr.add; split <;> simp_all

theorem run_fieldAt {w : World} {st f off ft : Nat} {fs : Array Field} {ci : TypeInfo} (hu : P.underlying st = some (.struct fs)) (hf : (fs.toList.map (fun g => (g.offset, g.type)))[f]? = some (off, ft))
    (hi : P.info? ft = some ci) (hn : ci.size ≠ 0) (b o : Nat) :
    (Instr.fieldAt st (.pointer (some ⟨b, o, none⟩)) f).run P w = .ok (.pointer (some ⟨b, o + off, none⟩)) w := by
  rw [List.getElem?_map] at hf
  obtain ⟨g, hg, he⟩ := Option.map_eq_some_iff.1 hf
  obtain ⟨rfl, rfl⟩ := Prod.mk.inj he
  have hg' : fs[f]? = some g := by rw [← Array.getElem?_toList]; exact hg
  simp [Instr.fieldAt, run_underlying hu, hg', Instr.sureAddr, fieldPlace, sizeOf, typeInfo, hi, hn, addr_add]

/-- The address behind a pointer, moved. -/
def mvP (off : Nat) : AV → Option AV
  | .ptr id o => some (.ptr id (o + off))
  | .aptr id i o => some (.aptr id i (o + off))
  | .eptr row o => some (.eptr row (o + off))
  | _ => none

theorem mvP_ok {β : Bt} {S : St} {w : World} {v : Value} {x y : AV} {off : Nat} (h : VR β S w v x) (hm : mvP off x = some y) :
    ∃ b o, v = .pointer (some ⟨b, o, none⟩) ∧ VR β S w (.pointer (some ⟨b, o + off, none⟩)) y := by
  cases h <;> simp only [mvP] at hm <;> try cases hm
  · exact ⟨_, _, rfl, .ptr _ _ _ ‹_›⟩
  · exact ⟨_, _, rfl, by rw [Nat.add_assoc]; exact .aptr _ _ _ _ ‹_›⟩
  · exact ⟨_, _, rfl, by rw [Nat.add_assoc]; exact .eptr _ _ _ _ _ ‹_› ‹_›⟩

theorem blt_lt {a b : Nat} (h : Nat.blt a b = true) : a < b := by simpa [Nat.blt_eq] using h

theorem ok_fieldAddr (hty : TyOK P ty) {st f off ft : Nat} {si fi : TI} {fs : List (Nat × Nat)} {x : Operand} {p q : AV} (hsi : ty st = some si) (hfs : si.desc = .struct fs) (hf : fs[f]? = some (off, ft))
    (hfi : ty ft = some fi) (hn : Nat.blt 0 fi.size = true) (hx : evO s x = some p) (hm : mvP off p = some q) (hd : dOK nt d = true) :
    OkOp P w0 nt ⟨d, .fieldAddr st x f, t, pos, af, g⟩ s (s.put d q) :=
  ok_value hd fun β S a w hs => by
    obtain ⟨_, _, _, hI⟩ := hty.get hsi
    obtain ⟨F, hu, hF⟩ := hI.struct hfs
    obtain ⟨ci, _, _, hJ⟩ := hty.get hfi
    obtain ⟨b, o, hv, hr⟩ := mvP_ok (evO_ok hs hx) hm
    refine ⟨_, ?_, hr⟩
    have := run_fieldAt (P := P) (w := w) hu (hF ▸ hf) hJ.info (by rw [hJ.size]; exact Nat.ne_of_gt (blt_lt hn)) b o
    simp [execOp, hv, this]

/-! loads -/
def Desc.isAgg : Desc → Bool
  | .struct _ => true
  | .array .. => true
  | _ => false

theorem run_isAgg {w : World} {i : TI} {ci : TypeInfo} {dd : TypeDesc} {z : Value} {u : Nat} (h : TIs P u i ci dd z) : (isAgg u).run P w = .ok i.desc.isAgg w := by
  have h1 := h.und
  have h2 := h.desc
  cases hd : i.desc <;> rw [hd] at h2 <;> cases dd <;> simp [descOK] at h2 <;> simp [isAgg, run_underlying h1, Desc.isAgg]

/-- What lies behind a pointer: so many cells. -/
def behind (blk : Bk) (n : Nat) : AV → Option (List AV)
  | .ptr id o => match blk id with
    | some (.bx _ cells) => some ((cells.drop o).take n)
    | some (.rob cells) => some ((cells.drop o).take n)
    | _ => none
  | .aptr id i o => match blk id with
    | some (.ar _ _ _ rows _) => (rows[i]?).map fun r => (r.drop o).take n
    | some (.ro _ _ rows) => (rows[i]?).map fun r => (r.drop o).take n
    | _ => none
  | .eptr row o => some ((row.drop o).take n)
  | _ => none

theorem getD_take_drop (l : List AV) (o n j : Nat) (hj : j < ((l.drop o).take n).length) : ((l.drop o).take n).getD j .any = l.getD (o + j) .any ∧ o + j < l.length := by
  simp only [List.length_take, List.length_drop] at hj
  refine ⟨?_, by omega⟩
  simp only [List.getD_eq_getElem?_getD, List.getElem?_take, List.getElem?_drop]
  rw [if_pos (by omega)]

theorem behind_ok {w : World} {β : Bt} {S : St} {a : Act} (hs : SR w0 nt β S s a w) {v : Value} {p : AV} {n : Nat} {cs : List AV} (hp : VR β S w v p) (hb : behind s.blk n p = some cs) :
    ∃ b o, v = .pointer (some ⟨b, o, none⟩) ∧ ∀ j, j < cs.length → ∃ u, w.cell? ⟨b, o + j, none⟩ = some u ∧ u.oneCell' = true ∧ VR β S w u (cs.getD j .any) := by
  cases hp <;> simp only [behind] at hb <;> try cases hb
  case ptr id off bi hbi =>
    split at hb
    · rename_i cells hk
      obtain rfl := Option.some.inj hb
      obtain ⟨bi', h1, h2, _⟩ := hs.hh.hblk id _ hk
      rw [hbi] at h1
      obtain rfl := Option.some.inj h1
      obtain ⟨c, tt, h3, h4, h5, _⟩ := h2
      refine ⟨_, _, rfl, fun j hj => ?_⟩
      obtain ⟨e, hlt⟩ := getD_take_drop cells off n j hj
      rw [e]
      have h6 := h5 (off + j) hlt
      rw [Nat.zero_add] at h6
      refine ⟨c.getD (off + j) undef, ?_, h6.2, h6.1⟩
      simp [World.cell?, h3, Array.getD, h4, hlt]
    · rename_i cells hk
      obtain rfl := Option.some.inj hb
      obtain ⟨bi', h1, h2, _⟩ := hs.hh.hblk id _ hk
      rw [hbi] at h1
      obtain rfl := Option.some.inj h1
      refine ⟨_, _, rfl, fun j hj => ?_⟩
      obtain ⟨e, hlt⟩ := getD_take_drop cells off n j hj
      rw [e]
      obtain ⟨_, u, h3, h4, h5⟩ := h2 (off + j) hlt
      exact ⟨u, h3, h4, VR.up h5⟩
    · cases hb
  case aptr id i off bi hbi =>
    split at hb
    · rename_i e es rows wr hk
      obtain ⟨bi', h1, h2, _⟩ := hs.hh.hblk id _ hk
      rw [hbi] at h1
      obtain rfl := Option.some.inj h1
      obtain ⟨r, hr, rfl⟩ := Option.map_eq_some_iff.1 hb
      have hi : i < rows.length := (List.getElem?_eq_some_iff.1 hr).1
      have hrd : rows.getD i [] = r := by rw [List.getD_eq_getElem?_getD, hr]; rfl
      obtain ⟨h3, h4, c, h5, h6, h7, h8, h9, _⟩ := h2
      refine ⟨_, _, rfl, fun j hj => ?_⟩
      obtain ⟨e1, hlt⟩ := getD_take_drop r off n j hj
      rw [e1]
      obtain ⟨h10, h11⟩ := h9 i hi
      rw [hrd] at h10 h11
      have h12 := h11 (off + j) hlt
      have hsz : i * es + (off + j) < c.size := by
        rw [h8]
        have : (i + 1) * es ≤ bi.c * es := Nat.mul_le_mul_right _ (by omega)
        rw [Nat.add_mul] at this
        omega
      refine ⟨c.getD (i * es + (off + j)) undef, ?_, h12.2, VR.up h12.1⟩
      rw [h3, Nat.add_assoc]
      simp [World.cell?, h5, Array.getD, hsz]
    · rename_i e es rows hk
      obtain ⟨bi', h1, h2, _⟩ := hs.hh.hblk id _ hk
      rw [hbi] at h1
      obtain rfl := Option.some.inj h1
      obtain ⟨r, hr, rfl⟩ := Option.map_eq_some_iff.1 hb
      have hi : i < rows.length := (List.getElem?_eq_some_iff.1 hr).1
      have hrd : rows.getD i [] = r := by rw [List.getD_eq_getElem?_getD, hr]; rfl
      obtain ⟨h3, h4, _, h9⟩ := h2
      refine ⟨_, _, rfl, fun j hj => ?_⟩
      obtain ⟨e1, hlt⟩ := getD_take_drop r off n j hj
      rw [e1]
      obtain ⟨h10, h11⟩ := h9 i hi
      rw [hrd] at h10 h11
      obtain ⟨_, u, h13, h14, h15⟩ := h11 (off + j) (by omega)
      exact ⟨u, by rw [h3, Nat.add_assoc]; exact h13, h14, VR.up h15⟩
    · cases hb
  case eptr b o off row cells h5 h6 =>
    refine ⟨_, _, rfl, fun j hj => ?_⟩
    obtain ⟨e1, hlt⟩ := getD_take_drop row off n j hj
    rw [e1]
    obtain ⟨_, h8, h9⟩ := h5 (off + j) hlt
    exact ⟨_, by rw [Nat.add_assoc]; exact h8, h9, VR.up (h6 _ hlt)⟩

theorem ok_load1 (hty : TyOK P ty) {u : Nat} {i : TI} {x : Operand} {p v : AV} (hi : ty u = some i) (ha : i.desc.isAgg = false) (hx : evO s x = some p) (hb : behind s.blk 1 p = some [v]) (hd : dOK nt d = true) :
    OkOp P w0 nt ⟨d, .load u x, t, pos, af, g⟩ s (s.put d v) :=
  ok_value hd fun β S a w hs => by
    obtain ⟨_, _, _, hI⟩ := hty.get hi
    obtain ⟨b, o, hv, hc⟩ := behind_ok hs (evO_ok hs hx) hb
    obtain ⟨c, h1, _, h3⟩ := hc 0 (by simp)
    have hag := run_isAgg (w := w) hI
    rw [ha] at hag
    refine ⟨c, ?_, h3⟩
    rw [Nat.add_zero] at h1
    simp [execOp, hv, Instr.loadAt, Instr.sureAddr, loadVar, hag, h1]

theorem ok_loadN (hty : TyOK P ty) {u : Nat} {i : TI} {x : Operand} {p : AV} {cs : List AV} (hi : ty u = some i) (ha : i.desc.isAgg = true) (hx : evO s x = some p) (hb : behind s.blk i.size p = some cs)
    (hl : Nat.beq cs.length i.size = true) (hd : dOK nt d = true) : OkOp P w0 nt ⟨d, .load u x, t, pos, af, g⟩ s (s.put d (.agg cs)) :=
  ok_value hd fun β S a w hs => by
    obtain ⟨ci, _, _, hI⟩ := hty.get hi
    obtain ⟨b, o, hv, hc⟩ := behind_ok hs (evO_ok hs hx) hb
    have hl := Nat.eq_of_beq_eq_true hl
    have hag := run_isAgg (w := w) hI
    rw [ha] at hag
    have hf : ∃ f : Nat → Value, ∀ j, j < cs.length → w.cell? ⟨b, o + j, none⟩ = some (f j) ∧ (f j).oneCell' = true ∧ VR β S w (f j) (cs.getD j .any) :=
      ⟨fun j => if h : j < cs.length then (hc j h).choose else undef, fun j hj => by simp only [hj, dif_pos]; exact (hc j hj).choose_spec⟩
    obtain ⟨f, hf⟩ := hf
    have hld := run_loadCells (P := P) w ⟨b, o, none⟩ ci.size f (fun j hj => by rw [addr_add]; exact (hf j (by rw [hl, ← hI.size]; exact hj)).1)
    refine ⟨.agg ((List.range ci.size).map f).toArray, ?_, ?_⟩
    · simp [execOp, hv, Instr.loadAt, Instr.sureAddr, loadVar, hag, sizeOf, typeInfo, hI.info, hld]
    · refine .agg _ _ (by simp [hl, hI.size]) (fun j hj => ?_) (fun j hj => ?_)
      · have := (hf j hj).2.2
        have e1 : (((List.range ci.size).map f).toArray).getD j undef = f j := by simp [Array.getD, hI.size, ← hl, hj]
        rw [e1]; exact this
      · have := (hf j hj).2.1
        simp [Array.getD, hI.size, ← hl, hj, this]
end
end Go.Aw
