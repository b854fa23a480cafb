/-
  Rules: elements' places, structs and rows that are built.
-/
import Derived.Test.YtpnjflimilamdaaGreatAw5
namespace Go.Aw
open Go.RowKit

section
variable {P : Program} {ty : Ty} {w0 : B0} {nt : Nat} {s : AS} {d : Option Nat} {t : TypeId} {pos : String} {af : Array Edge} {g : Option (Nat × Bool)}

theorem run_indexAt {w : World} {u e : Nat} {ci : TypeInfo} (hu : P.underlying u = some (.slice e)) (hi : P.info? e = some ci) (b o n c : Nat) (k : IntKind) (i : Int) (h0 : 0 ≤ i) (h1 : i.toNat < n) :
    (Instr.indexAt u (.slice (some ⟨b, o, none⟩) n c) (.int k i)).run P w = .ok (.pointer (some ⟨b, o + i.toNat * ci.size, none⟩)) w := by
  have h2 : i < (n : Int) := by omega
  simp [Instr.indexAt, run_underlying hu, asIntOf, h0, h2, sizeOf, typeInfo, hi, addr_add]

theorem ok_indexL (hty : TyOK P ty) {u e : Nat} {ui ei : TI} {x y : Operand} {es : Nat} {rows : List (List AV)} {row : List AV} {full : Bool} {k : IntKind} {i : Int} (hui : ty u = some ui) (hd1 : ui.desc = .slice e) (hei : ty e = some ei)
    (hx : evO s x = some (.lst es rows full)) (hy : evO s y = some (.int k i)) (hes : Nat.beq es ei.size = true) (h0 : 0 ≤ i) (hr : rows[i.toNat]? = some row) (hd : dOK nt d = true) :
    OkOp P w0 nt ⟨d, .indexAddr u x y, t, pos, af, g⟩ s (s.put d (.eptr row 0)) :=
  ok_value hd fun β S a w hs => by
    have hes := Nat.eq_of_beq_eq_true hes
    have h1 := evO_ok hs hx
    have h2 := evO_ok hs hy
    obtain ⟨_, _, _, hU⟩ := hty.get hui
    obtain ⟨ci, _, _, hE⟩ := hty.get hei
    generalize e1 : a.eval x = cx at h1
    generalize e2 : a.eval y = cy at h2
    cases h2
    have hlt : i.toNat < rows.length := (List.getElem?_eq_some_iff.1 hr).1
    cases h1 with
    | lst0 => simp at hlt
    | lstZ => simp at hlt
    | lst b o n c _ _ _ cells q1 q2 q3 q4 q5 q6 =>
      have hrd : rows.getD i.toNat [] = row := by rw [List.getD_eq_getElem?_getD, hr]; rfl
      have hl := q4 i.toNat (by omega)
      rw [hrd] at hl
      refine ⟨.pointer (some ⟨b, o + i.toNat * es + 0, none⟩), ?_, .eptr b (o + i.toNat * es) 0 row (cells i.toNat) (fun j hj => q5 i.toNat j (by omega) (by omega)) (fun j hj => ?_)⟩
      · have := run_indexAt (P := P) (w := w) (hU.slice hd1) hE.info b o n c k i h0 (by omega)
        simp [execOp, e1, e2, this, hE.size, hes]
      · have := q6 i.toNat j (by omega) (by omega)
        rwa [hrd] at this

theorem ok_indexA (hty : TyOK P ty) {u e : Nat} {ui ei : TI} {x y : Operand} {id n : Nat} {k : IntKind} {i : Int} (hui : ty u = some ui) (hd1 : ui.desc = .slice e) (hei : ty e = some ei)
    (hx : evO s x = some (.arr id)) (hy : evO s y = some (.int k i)) (hes : (match s.blk id with | some (.ar _ _ es _ _) => Nat.beq es ei.size | some (.ro _ es _) => Nat.beq es ei.size | _ => false) = true)
    (hn : lenV s.blk (.arr id) = some n) (h0 : 0 ≤ i) (h1 : i < n) (hd : dOK nt d = true) :
    OkOp P w0 nt ⟨d, .indexAddr u x y, t, pos, af, g⟩ s (s.put d (.aptr id i.toNat 0)) :=
  ok_value hd fun β S a w hs => by
    have h2 := evO_ok hs hx
    have h3 := evO_ok hs hy
    obtain ⟨_, _, _, hU⟩ := hty.get hui
    obtain ⟨ci, _, _, hE⟩ := hty.get hei
    generalize e1 : a.eval x = cx at h2
    generalize e2 : a.eval y = cy at h3
    cases h3
    cases h2
    rename_i bi hbi
    have key : bi.es = ei.size ∧ bi.n = n := by
      simp only [lenV] at hn
      split at hn
      · rename_i hk
        obtain ⟨bi', q1, q2, _⟩ := hs.hh.hblk id _ hk
        rw [hbi] at q1
        obtain rfl := Option.some.inj q1
        rw [hk] at hes
        exact ⟨q2.1.trans (Nat.eq_of_beq_eq_true hes), q2.2.1.trans (Option.some.inj hn)⟩
      · rename_i hk
        obtain ⟨bi', q1, q2, _⟩ := hs.hh.hblk id _ hk
        rw [hbi] at q1
        obtain rfl := Option.some.inj q1
        rw [hk] at hes
        exact ⟨q2.1.trans (Nat.eq_of_beq_eq_true hes), q2.2.1.trans (Option.some.inj hn)⟩
      · cases hn
    refine ⟨.pointer (some ⟨bi.b, i.toNat * bi.es + 0, none⟩), ?_, .aptr _ _ _ _ hbi⟩
    have := run_indexAt (P := P) (w := w) (hU.slice hd1) hE.info bi.b 0 bi.n bi.c k i h0 (by omega)
    simp [execOp, e1, e2, this, hE.size, key.1]

/-! what is built -/
theorem fold_set (off : Nat) : ∀ (l : List Value) (k : Nat) (cs : Array Value), off + k + l.length ≤ cs.size →
    ((l.zipIdx k).foldl (fun cs (c, j) => cs.setIfInBounds (off + j) c) cs).size = cs.size ∧
    ∀ m, ((l.zipIdx k).foldl (fun cs (c, j) => cs.setIfInBounds (off + j) c) cs).getD m undef = if off + k ≤ m ∧ m < off + k + l.length then l.getD (m - (off + k)) undef else cs.getD m undef
  | [], k, cs, _ => ⟨rfl, fun m => by rw [if_neg (by simp)]; rfl⟩
  | v :: l, k, cs, h => by
    simp only [List.length_cons] at h
    have ih := fold_set off l (k + 1) (cs.setIfInBounds (off + k) v) (by simp; omega)
    simp only [List.zipIdx_cons, List.foldl_cons]
    refine ⟨by rw [ih.1]; simp, fun m => ?_⟩
    rw [ih.2 m]
    by_cases h1 : off + (k + 1) ≤ m ∧ m < off + (k + 1) + l.length
    · rw [if_pos h1, if_pos (by simp; omega)]
      have : m - (off + k) = (m - (off + (k + 1))) + 1 := by omega
      rw [this]; rfl
    · rw [if_neg h1]
      by_cases h2 : m = off + k
      · subst h2
        rw [if_pos (by simp), getD_set_same _ _ _ _ (by omega)]
        simp
      · rw [getD_set_other _ _ _ h2, if_neg (by simp; omega)]

/-- Parts put into cells. -/
def bldA (pl : Nat → Option (Nat × Nat)) (cells : List AV) : List (Nat × AV) → Option (List AV)
  | [] => forceL cells
  | (i, x) :: rest => match pl i with
    | some (o, sz) => match cellsV x with
      | some vs => match Nat.beq vs.length sz && Nat.ble (o + vs.length) cells.length with
        | true => bldA pl (setAt cells o vs) rest
        | false => none
      | none => none
    | none => none

theorem fill_ok {β : Bt} {S : St} {w : World} {pl : Nat → Option (Nat × Nat)} : ∀ {ps : List (Nat × Value)} {xs : List (Nat × AV)} {cs : Array Value} {cells cells' : List AV}, cs.size = cells.length → CR β S w cs 0 cells →
    ps.length = xs.length → (∀ (j : Nat) (p : Nat × Value) (x : Nat × AV), ps[j]? = some p → xs[j]? = some x → p.1 = x.1 ∧ VR β S w p.2 x.2) → bldA pl cells xs = some cells' →
    ∃ cs', Instr.fill pl cs ps = some cs' ∧ cs'.size = cells'.length ∧ CR β S w cs' 0 cells'
  | [], [], cs, cells, cells', h1, h2, _, _, h5 => by
    have := forceL_eq (l := cells) h5
    subst this
    exact ⟨cs, rfl, h1, h2⟩
  | (i, v) :: ps, (i', x) :: xs, cs, cells, cells', h1, h2, h3, h4, h5 => by
    obtain ⟨e, hv⟩ := h4 0 _ _ rfl rfl
    simp only at e hv
    subst e
    unfold bldA at h5
    cases hp : pl i with
    | none => rw [hp] at h5; cases h5
    | some q =>
      obtain ⟨o, sz⟩ := q
      rw [hp] at h5
      cases hc : cellsV x with
      | none => simp [hc] at h5
      | some vs =>
        simp only [hc] at h5
        cases hb : (Nat.beq vs.length sz && Nat.ble (o + vs.length) cells.length) with
        | false => rw [hb] at h5; cases h5
        | true =>
          rw [hb] at h5
          rw [Bool.and_eq_true] at hb
          have b1 := Nat.eq_of_beq_eq_true hb.1
          have b2 := Nat.le_of_ble_eq_true hb.2
          obtain ⟨c1, c2⟩ := cellsV_ok hv hc
          have hf := fold_set o v.cells.toList 0 cs (by simp; omega)
          simp only [Nat.add_zero] at hf
          obtain ⟨cs', r1, r2, r3⟩ := fill_ok (ps := ps) (xs := xs) (cs := (v.cells.toList.zipIdx.foldl (fun cs (c, j) => cs.setIfInBounds (o + j) c) cs)) (cells := setAt cells o vs) (by rw [hf.1, setAt_length _ _ _ b2, h1])
            (fun j hj => by
              rw [setAt_length _ _ _ b2] at hj
              rw [Nat.zero_add, hf.2 j, setAt_getD _ _ _ _ b2]
              have e : v.cells.toList.length = vs.length := by simpa using c1
              rw [e]
              split
              · rw [getD_toList]
                have := c2 (j - o) (by omega)
                rwa [Nat.zero_add] at this
              · have := h2 j hj
                rwa [Nat.zero_add] at this) (by simpa using h3) (fun j p x hp hx => h4 (j + 1) p x (by simpa using hp) (by simpa using hx)) h5
          refine ⟨cs', ?_, r2, r3⟩
          unfold Instr.fill
          rw [hp]
          have n1 : ¬ (v.cells.size ≠ sz ∨ o + v.cells.size > cs.size) := by omega
          simp only [ne_eq, gt_iff_lt, Bool.or_eq_true, decide_eq_true_eq]
          rw [if_neg (by simpa using n1)]
          rw [← Array.foldl_toList, Array.toList_zipIdx]
          exact r1

def evParts (s : AS) : List (Nat × Operand) → Option (List (Nat × AV))
  | [] => some []
  | (i, x) :: l => match evO s x, evParts s l with
    | some v, some r => some ((i, v) :: r)
    | _, _ => none

theorem evParts_ok {w : World} {β : Bt} {S : St} {a : Act} (hs : SR w0 nt β S s a w) : ∀ {l : List (Nat × Operand)} {xs : List (Nat × AV)}, evParts s l = some xs → l.length = xs.length ∧
    ∀ (j : Nat) (p : Nat × Value) (x : Nat × AV), (l.map fun q => (q.1, a.eval q.2))[j]? = some p → xs[j]? = some x → p.1 = x.1 ∧ VR β S w p.2 x.2
  | [], xs, h => by
    obtain rfl := Option.some.inj h
    exact ⟨rfl, fun j p x hp => by simp at hp⟩
  | (i, y) :: l, xs, h => by
    unfold evParts at h
    split at h
    · rename_i v r hv hr
      obtain rfl := Option.some.inj h
      obtain ⟨h1, h2⟩ := evParts_ok hs hr
      refine ⟨by simp [h1], fun j p x hp hx => ?_⟩
      cases j with
      | zero =>
        simp at hp hx
        obtain rfl := hp
        obtain rfl := hx
        exact ⟨rfl, evO_ok hs hv⟩
      | succ j => exact h2 j p x (by simpa using hp) (by simpa using hx)
    · cases h

def plS (ty : Ty) (fs : List (Nat × Nat)) (i : Nat) : Option (Nat × Nat) := match fs[i]? with
  | some (off, ft) => match ty ft with
    | some fi => some (off, fi.size)
    | none => none
  | none => none

end
end Go.Aw
