/-
  Rules: structs and rows that are built, appends.
-/
import Derived.Test.YtpnjflimilamdaaGreatAw6
import Derived.Laws.Tables
import Derived.Laws.OwnMore
namespace Go.Aw
open Go.RowKit

section
variable {P : Program} {ty : Ty} {w0 : B0} {nt : Nat} {s : AS} {d : Option Nat} {t : TypeId} {pos : String} {af : Array Edge} {g : Option (Nat × Bool)}

theorem ok_build (hty : TyOK P ty) {u : Nat} {i : TI} {fs : List (Nat × Nat)} {parts : Array (Nat × Operand)} {xs : List (Nat × AV)} {cells : List AV} (hi : ty u = some i) (hd1 : i.desc = .struct fs)
    (hp : evParts s parts.toList = some xs) (hb : bldA (fun k => i.pl[k]?) i.zero xs = some cells) (hd : dOK nt d = true) :
    OkOp P w0 nt ⟨d, .build u parts, t, pos, af, g⟩ s (s.put d (.agg cells)) :=
  ok_value hd fun β S a w hs => by
    obtain ⟨ci, dd, z, hI⟩ := hty.get hi
    obtain ⟨F, hu, _⟩ := hI.struct hd1
    have hdd : dd = .struct F := Option.some.inj (hI.und.symm.trans hu)
    have hz := zerosOK_at (β := β) (S := S) (w := w) hI.zs
    obtain ⟨e1, e2⟩ := evParts_ok hs hp
    obtain ⟨cs', r1, r2, r3⟩ := fill_ok (β := β) (S := S) (w := w) (cs := z.cells) (cells := i.zero) (ps := parts.toList.map fun q => (q.1, a.eval q.2)) (by simpa using hz.1)
      (fun j hj => by
        have := hz.2 j hj
        rw [getD_toList] at this
        rwa [Nat.zero_add]) (by simpa using e1) e2 hb
    have hpl := hI.pls
    rw [hdd] at hpl
    have hbu : P.built u ((parts.map fun q => (q.1, a.eval q.2)).toList) = some cs' := by
      unfold Program.built
      simp only [hI.info, hu, hI.zero]
      have hpl : F.toList.mapM (fun f => (P.info? f.type).map fun i => (f.offset, i.size)) = some i.pl := hpl
      rw [hpl]
      simpa using r1
    refine ⟨.agg cs', ?_, .agg _ _ r2 (fun j hj => ?_) (fun j hj => ?_)⟩
    · have := run_build w u _ cs' hbu
      simp [execOp, this]
    · have := (r3 j hj).1; rwa [Nat.zero_add] at this
    · have := (r3 j hj).2; rwa [Nat.zero_add] at this

/-- Rows out of what stands in a row's places, in their order. -/
def rowsA (n sz : Nat) : Nat → List (Nat × AV) → Option (List (List AV))
  | k, [] => match Nat.beq k n with
    | true => some []
    | false => none
  | k, (i, x) :: rest => match Nat.beq i k, cellsV x, rowsA n sz (k + 1) rest with
    | true, some vs, some r => match Nat.beq vs.length sz && vs.all closedS with
      | true => some (vs :: r)
      | false => none
    | _, _, _ => none

theorem fillRows {β : Bt} {S : St} {w : World} {n sz : Nat} : ∀ {k : Nat} {ps : List (Nat × Value)} {xs : List (Nat × AV)} {rows : List (List AV)} {cs : Array Value}, cs.size = n * sz → rowsA n sz k xs = some rows →
    ps.length = xs.length → (∀ (j : Nat) (p : Nat × Value) (x : Nat × AV), ps[j]? = some p → xs[j]? = some x → p.1 = x.1 ∧ VR β S w p.2 x.2) →
    k + rows.length = n ∧ ∃ cs', Instr.fill (fun i => some (i * sz, sz)) cs ps = some cs' ∧ cs'.size = n * sz ∧ (∀ m, m < k * sz → cs'.getD m undef = cs.getD m undef) ∧
      ∀ i, i < rows.length → (rows.getD i []).length = sz ∧ CR nb S w cs' ((k + i) * sz) (rows.getD i [])
  | k, [], [], rows, cs, h1, h2, _, _ => by
    simp only [rowsA] at h2
    split at h2
    · rename_i hb
      obtain rfl := Option.some.inj h2
      exact ⟨Nat.eq_of_beq_eq_true hb, cs, rfl, h1, fun _ _ => rfl, fun i hi => by simp at hi⟩
    · cases h2
  | k, (i', v) :: ps, (i, x) :: xs, rows, cs, h1, h2, h3, h4 => by
    obtain ⟨e, hv⟩ := h4 0 _ _ rfl rfl
    simp only at e hv
    subst e
    simp only [rowsA] at h2
    split at h2
    · rename_i vs r hb hc hr
      split at h2
      · rename_i hl
        obtain rfl := Option.some.inj h2
        obtain rfl : i' = k := Nat.eq_of_beq_eq_true hb
        rw [Bool.and_eq_true] at hl
        have hcl := hl.2
        have hl := Nat.eq_of_beq_eq_true hl.1
        obtain ⟨c1, c2⟩ := cellsV_ok hv hc
        have hn : i' + 1 + r.length = n := by
          have : ∀ {k : Nat} {xs : List (Nat × AV)} {r : List (List AV)}, rowsA n sz k xs = some r → k + r.length = n := by
            intro k xs
            induction xs generalizing k with
            | nil => intro r h; simp only [rowsA] at h; split at h
                     · rename_i hb; obtain rfl := Option.some.inj h; exact Nat.eq_of_beq_eq_true hb
                     · cases h
            | cons y ys ih =>
              intro r h
              obtain ⟨i, x⟩ := y
              simp only [rowsA] at h
              split at h
              · rename_i hr2
                split at h
                · obtain rfl := Option.some.inj h
                  have := ih hr2
                  simp only [List.length_cons]; omega
                · cases h
              · cases h
          exact this hr
        have hmul : (i' + 1) * sz ≤ n * sz := Nat.mul_le_mul_right _ (by omega)
        rw [Nat.add_mul] at hmul
        have hf := fold_set (i' * sz) v.cells.toList 0 cs (by simp; omega)
        simp only [Nat.add_zero] at hf
        obtain ⟨_, cs', r1, r2, r3, r4⟩ := fillRows (ps := ps) (cs := (v.cells.toList.zipIdx.foldl (fun cs (c, j) => cs.setIfInBounds (i' * sz + j) c) cs)) (by rw [hf.1, h1]) hr (by simpa using h3)
          (fun j p x hp hx => h4 (j + 1) p x (by simpa using hp) (by simpa using hx))
        have e : v.cells.toList.length = sz := by simpa [hl] using c1
        refine ⟨by simp only [List.length_cons]; omega, cs', ?_, r2, fun m hm => ?_, fun i hi => ?_⟩
        · unfold Instr.fill
          have n1 : ¬ (v.cells.size ≠ sz ∨ i' * sz + v.cells.size > cs.size) := by omega
          simp only [ne_eq, gt_iff_lt, Bool.or_eq_true, decide_eq_true_eq]
          rw [if_neg (by simpa using n1)]
          rw [← Array.foldl_toList, Array.toList_zipIdx]
          exact r1
        · rw [r3 m (by rw [Nat.add_mul]; omega), hf.2 m, if_neg (by omega)]
        · cases i with
          | zero =>
            refine ⟨by simpa using hl, fun j hj => ?_⟩
            simp only [List.getD_cons_zero] at hj ⊢
            rw [Nat.add_zero, r3 _ (by rw [Nat.add_mul]; omega), hf.2, if_pos (by omega), getD_toList, show i' * sz + j - i' * sz = j from by omega]
            have := c2 j hj
            rw [Nat.zero_add] at this
            exact ⟨closedS_nb (all_getD hcl hj) this.1, this.2⟩
          | succ i =>
            have := r4 i (by simpa using hi)
            rw [show i' + 1 + i = i' + (i + 1) from by omega] at this
            simpa using this
      · cases h2
    · cases h2

theorem bs_run (hty : TyOK P ty) {u e n : Nat} {ui ei : TI} {parts : Array (Nat × Operand)} {xs : List (Nat × AV)} {rows : List (List AV)} {β : Bt} {S : St} {a : Act} {w : World} (hs : SR w0 nt β S s a w) (hui : ty u = some ui) (hd1 : ui.desc = .slice e) (hei : ty e = some ei)
    (hp : evParts s parts.toList = some xs) (hb : rowsA n ei.size 0 xs = some rows) (hsm : Nat.ble (n * ei.size) 1000 = true) :
    ∃ cs' : Array Value, (execOp a.eval ⟨d, .buildSlice u n parts, t, pos, af, g⟩).run P w = .ok (.value (.slice (some ⟨w.heap.size, 0, none⟩) n n)) (w.alloc (.cells cs' e)) ∧ cs'.size = n * ei.size ∧ rows.length = n ∧
      ∀ i, i < rows.length → (rows.getD i []).length = ei.size ∧ CR nb S w cs' (i * ei.size) (rows.getD i []) := by
  have hsm : n * ei.size ≤ 1000 := Nat.le_of_ble_eq_true hsm
  obtain ⟨_, _, _, hU⟩ := hty.get hui
  obtain ⟨ci, dd, z, hE⟩ := hty.get hei
  obtain ⟨e1, e2⟩ := evParts_ok hs hp
  have hsz : ci.size = ei.size := hE.size
  obtain ⟨cs0, hcs0, hc0⟩ : ∃ cs0 : Array Value, cs0.size = n * ei.size ∧ (if n * ci.size = 0 then (#[] : Array Value) else z.cells) = (if n * ci.size = 0 then (#[] : Array Value) else z.cells) ∧ cs0 = (Array.range (n * ci.size)).map (fun i => (if n * ci.size = 0 then (#[] : Array Value) else z.cells)[i % (if n * ci.size = 0 then (#[] : Array Value) else z.cells).size]!) := ⟨_, by simp [hsz], rfl, rfl⟩
  have hFR := fillRows (β := β) (S := S) (w := w) (k := 0) (ps := parts.toList.map fun q => (q.1, a.eval q.2)) (cs := cs0) hcs0 hb (by simpa using e1) e2
  obtain ⟨hrn, cs', r1, r2, _, r4⟩ := hFR
  have hr : (execOp a.eval ⟨d, .buildSlice u n parts, t, pos, af, g⟩).run P w = .ok (.value (.slice (some ⟨w.heap.size, 0, none⟩) n n)) (w.alloc (.cells cs' e)) := by
    have hu := hU.slice hd1
    have hbig : ¬ (16777216 < n * ci.size) := by rw [hsz]; omega
    have r1' : Instr.fill (fun i => some (i * ci.size, ci.size)) cs0 (parts.toList.map fun q => (q.1, a.eval q.2)) = some cs' := by rw [hsz]; exact r1
    by_cases h0 : n * ci.size = 0
    · simp only [h0, if_true] at hc0
      simp [execOp, Instr.buildSlice, run_underlying hu, sizeOf, typeInfo, hE.info, h0]
      have e0 : (Array.range 0).map (fun _ => (default : Value)) = cs0 := by
        have : cs0 = #[] := Array.eq_empty_of_size_eq_zero (by rw [hcs0, ← hsz]; exact h0)
        rw [this]; exact Array.eq_empty_of_size_eq_zero (by simp)
      rw [e0]
      simp [r1', newRow]
    · simp only [h0, if_false] at hc0
      simp [execOp, Instr.buildSlice, run_underlying hu, sizeOf, typeInfo, zeroValue, hE.info, hE.zero, h0, hbig]
      rw [← hc0.2]
      simp [r1', newRow]
  simp only [Nat.zero_add] at hrn r4
  exact ⟨cs', hr, r2, hrn, r4⟩

theorem ok_buildSlice (hty : TyOK P ty) {u e n : Nat} {ui ei : TI} {parts : Array (Nat × Operand)} {xs : List (Nat × AV)} {rows : List (List AV)} (id : Nat) (hui : ty u = some ui) (hd1 : ui.desc = .slice e) (hei : ty e = some ei)
    (hid : s.blk id = none) (hp : evParts s parts.toList = some xs) (hb : rowsA n ei.size 0 xs = some rows) (hsm : Nat.ble (n * ei.size) 1000 = true) (hz0 : Nat.blt 0 ei.size = true) (hd : dOK nt d = true) :
    OkOp P w0 nt ⟨d, .buildSlice u n parts, t, pos, af, g⟩ s ((s.setB id (.arr e ei.size rows true)).put d (.arr id)) := by
  intro β S a w next Q hs hn
  obtain ⟨cs', hr, r2, hrn, r4⟩ := bs_run (d := d) (t := t) (pos := pos) (af := af) (g := g) hty hs hui hd1 hei hp hb hsm
  have hsm : n * ei.size ≤ 1000 := Nat.le_of_ble_eq_true hsm
  have hz0 := blt_lt hz0
  unfold Oper.wp
  rw [hr]
  have hB := below_alloc1 w (.cells cs' e)
  refine hn _ _ _ _ (ok_new hs hB hid hd (bi := ⟨w.heap.size, n, n, ei.size⟩) (Nat.le_refl _) ⟨rfl, hrn.symm, cs', heap_alloc_new w _, Nat.le_refl _, ?_, r2, fun i hi => ⟨(r4 i hi).1, (r4 i hi).2.mono (fun _ _ q => by cases q) (fun b o q => ⟨q, cell_lt hB (hs.hh.hlt b o q)⟩)⟩, fun _ o q => absurd (hs.hh.hlt _ _ q) (Nat.lt_irrefl _), (fun q => by cases q), fun _ q => by cases q⟩ (fun h => .arr _ _ h))
  · have : n ≤ n * ei.size := Nat.le_mul_of_pos_right n hz0
    simp only [maxLen]; omega

end
end Go.Aw
