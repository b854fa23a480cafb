/-
  Arrays that are made, and written place by place.
-/
import Derived.Test.YtpnjflimilamdaaGreatAw19
namespace Go.Aw
open Go.RowKit

theorem set_fill {α : Type} {A : List α} {z r : α} {n j : Nat} (hA : A.length = j) (hj : j < n) : (A ++ List.replicate (n - j) z).set j r = (A ++ [r]) ++ List.replicate (n - (j + 1)) z := by
  obtain ⟨m, hm⟩ : ∃ m, n - j = m + 1 := ⟨n - j - 1, by omega⟩
  have hm' : n - (j + 1) = m := by omega
  rw [hm, hm', List.replicate_succ, List.set_append_right _ _ (by omega), show j - A.length = 0 by omega, List.set_cons_zero]
  simp
theorem get_fill {α : Type} {A : List α} {z : α} {n j : Nat} (hA : A.length = j) (hj : j < n) : (A ++ List.replicate (n - j) z)[j]? = some z := by
  rw [List.getElem?_append_right (by omega), show j - A.length = 0 by omega, List.getElem?_replicate]
  simp; omega

section
variable {P : Program} {ty : Ty} {w0 : B0} {nt : Nat} {s s' : AS} {ops : Array Oper} {l : List Oper} {o : Oper} {K : AS → Prop} {C : Exit → AS → Prop} {d : Option Nat} {t : TypeId} {pos : String} {af : Array Edge} {g : Option (Nat × Bool)}

/-- The zero value of a slice type's elements. -/
def elZero (ty : Ty) (u : Nat) : Option (List AV) := match ty u with
  | some ui => match ui.desc with
    | .slice e => match ty e with
      | some ei => some ei.zero
      | none => none
    | _ => none
  | none => none

theorem ok_makeSlice (hty : TyOK P ty) {u e es b : Nat} {x y : Operand} {k k' : IntKind} {n : Nat} {zero : List AV} (id : Nat) (he : elTI ty u = some (e, es, b)) (hz : elZero ty u = some zero) (hid : s.blk id = none) (hx : evO s x = some (.int k (n : Int))) (hy : evO s y = some (.int k' (n : Int)))
    (hb : n * b ≤ 140737488355328) (hb0 : Nat.blt 0 b = true) (hd : dOK nt d = true) :
    OkOp P w0 nt ⟨d, .makeSlice u x y, t, pos, af, g⟩ s ((s.setB id (.arr e es (List.replicate n zero) true)).put d (.arr id)) := by
  intro β S a w next Q hs hn
  obtain ⟨ui, ei, h1, h2, h3, rfl, rfl⟩ := elTI_ok he
  obtain rfl : ei.zero = zero := by simpa [elZero, h1, h2, h3] using hz
  obtain ⟨_, _, _, hU⟩ := hty.get h1
  obtain ⟨ci, _, z, hE⟩ := hty.get h3
  have hb0 := blt_lt hb0
  have hn1 : n ≤ n * ei.bytes := Nat.le_mul_of_pos_right n hb0
  have e1 := evO_ok hs hx
  have e2 := evO_ok hs hy
  generalize q1 : a.eval x = vx at e1
  generalize q2 : a.eval y = vy at e2
  cases e1
  cases e2
  have hbz : (ci.bytes : Int) * (n : Int) ≤ 281474976710656 := by
    have : ((ci.bytes * n : Nat) : Int) ≤ 281474976710656 := by rw [hE.bytes, Nat.mul_comm]; omega
    rwa [Int.natCast_mul] at this
  have hr0 := run_make (P := P) w u e ci z (hU.slice h2) hE.info hE.zero k k' n n (by omega) (Int.le_refl _) hbz (by omega)
  simp only [Int.toNat_natCast] at hr0
  have hr : (execOp a.eval ⟨d, .makeSlice u x y, t, pos, af, g⟩).run P w = .ok (.value (.slice (some ⟨w.heap.size, 0, none⟩) n n)) (w.alloc (.cells (madeCells z.cells (n * ci.size)) e)) := by
    simp [execOp, q1, q2, hr0]
  unfold Oper.wp
  rw [hr]
  have hB := below_alloc1 w (.cells (madeCells z.cells (n * ci.size)) e)
  have hzs := zerosOK_at (β := nb) (S := S) (w := w.alloc (.cells (madeCells z.cells (n * ci.size)) e)) hE.zs
  have hzl : ei.zero.length = ei.size := by rw [← hzs.1, Array.length_toList, hE.zsize]
  refine hn _ _ _ _ (ok_new hs hB hid hd (bi := ⟨w.heap.size, n, n, ei.size⟩) (Nat.le_refl _) ⟨rfl, by simp, _, heap_alloc_new w _, Nat.le_refl _, by simp only [maxLen]; omega, by rw [size_madeCells, hE.size], fun i hi => ?_, fun _ o q => absurd (hs.hh.hlt _ _ q) (Nat.lt_irrefl _), (fun q => by cases q), fun _ q => by cases q⟩ (fun h => .arr _ _ h))
  simp only [List.length_replicate] at hi
  have hg : (List.replicate n ei.zero).getD i [] = ei.zero := by simp [List.getD_eq_getElem?_getD, hi]
  rw [hg]
  refine ⟨hzl, fun j hj => ?_⟩
  have hj' : j < ei.size := by omega
  have hlt : i * ei.size + j < n * ci.size := by
    rw [hE.size]
    have : (i + 1) * ei.size ≤ n * ei.size := Nat.mul_le_mul_right _ (by omega)
    rw [Nat.add_mul] at this
    omega
  have hzc : z.cells.size = ei.size := hE.zsize
  have hmod : (i * ei.size + j) % z.cells.size = j := by rw [hzc, Nat.add_comm, Nat.add_mul_mod_self_right, Nat.mod_eq_of_lt hj']
  have e3 : (madeCells z.cells (n * ci.size)).getD (i * ei.size + j) undef = z.cells.toList.getD j undef := by
    have hjz : j < z.cells.size := by omega
    simp [madeCells, Array.getD, hlt, hmod, List.getD_eq_getElem?_getD, hjz]
  rw [e3]
  exact hzs.2 j hj

theorem m_makeSlice (hty : TyOK P ty) {u e es b : Nat} {x y : Operand} {k k' : IntKind} {n : Nat} {zero : List AV} (id : Nat) (he : elTI ty u = some (e, es, b)) (hz : elZero ty u = some zero) (hid : (s.blk id).isNone = true) (hx : evO s x = some (.int k (n : Int))) (hy : evO s y = some (.int k' (n : Int)))
    (hn : n ≤ 4194304) (hb : Nat.ble b 65536 = true) (hb0 : Nat.blt 0 b = true) (hd : dOK nt d = true) :
    MStep P w0 nt ⟨d, .makeSlice u x y, t, pos, af, g⟩ s (.arr id) [(id, .arr e es (List.replicate n zero) true)] := by
  intro t2 hle hfr
  exact ok_makeSlice hty id he hz (hfr (_, _) (List.mem_singleton.2 rfl) (Option.isNone_iff_eq_none.1 hid)) (evO_mono hle hx) (evO_mono hle hy) (small_mul hn hb) hb0 hd

theorem ok_storeA (hty : TyOK P ty) {pin : Option BI} {u : Nat} {ui : TI} {x y : Operand} {id i off e es : Nat} {v : AV} {rows : List (List AV)} {row vs row' : List AV} (hi : ty u = some ui) (hx : evO s x = some (.aptr id i off)) (hy : evO s y = some v)
    (hb : s.blk id = some (.ar pin e es rows true)) (hrow : rows[i]? = some row) (hv : cellsV v = some vs) (hl : Nat.beq vs.length ui.size = true) (ho : Nat.ble (off + vs.length) es = true) (hcl : vs.all closedS = true) (hc : setAt row off vs = row') :
    OkOp P w0 nt ⟨none, .store u x y, t, pos, af, g⟩ s (s.setB id (.ar pin e es (rows.set i row') true)) := by
  intro β S a w next Q hs hn
  have hl := Nat.eq_of_beq_eq_true hl
  have ho : off + vs.length ≤ es := Nat.le_of_ble_eq_true ho
  subst hc
  obtain ⟨ci, _, _, hI⟩ := hty.get hi
  have h1 := evO_ok hs hx
  have h2 := evO_ok hs hy
  generalize e1 : a.eval x = ax at h1
  cases h1
  rename_i bi hbi
  obtain ⟨bi2, e2, h3, h4⟩ := hs.hh.hblk id _ hb
  rw [hbi] at e2
  obtain rfl := Option.some.inj e2
  obtain ⟨b1, b2, cs, b3, b4, b5, b6, b7, b8, b9⟩ := h3
  have h8 := b8 rfl
  obtain ⟨h9, h10⟩ := cellsV_ok h2 hv
  have hilt : i < rows.length := (List.getElem?_eq_some_iff.1 hrow).1
  have hrd : rows.getD i [] = row := by rw [List.getD_eq_getElem?_getD, hrow]; rfl
  have hrl : row.length = es := by have := (b7 i hilt).1; rwa [hrd] at this
  have e1 : a.eval x = .pointer (some ⟨bi.b, i * es + off, none⟩) := by rw [e1, b1]
  have hmul : (i + 1) * es ≤ bi.c * es := Nat.mul_le_mul_right _ (by omega)
  rw [Nat.add_mul] at hmul
  have h9' : (a.eval y).cells.toList.length = vs.length := by simpa using h9
  have hst := run_storeCells_at P bi.b (i * es + off) e (a.eval y).cells.toList 0 cs w b3 (by rw [h9', b6]; omega) (by
    intro q hq
    obtain ⟨j, hj, rfl⟩ := List.mem_iff_getElem.1 hq
    have := (h10 j (by rw [← h9]; simpa using hj)).2
    rw [Nat.zero_add] at this
    have e : (a.eval y).cells.getD j undef = (a.eval y).cells.toList[j] := by
      simp at hj
      simp [Array.getD, hj]
    rwa [e] at this)
  have hcl' : cs.toList.length = bi.c * es := by rw [Array.length_toList, b6]
  have ho' : i * es + off + (a.eval y).cells.toList.length ≤ cs.toList.length := by omega
  simp only [Nat.add_zero] at hst
  obtain ⟨rw', hrow0⟩ : ∃ rw' : Array Value, rw' = (cs.toList.take (i * es + off) ++ (a.eval y).cells.toList ++ cs.toList.drop (i * es + off + (a.eval y).cells.toList.length)).toArray := ⟨_, rfl⟩
  rw [← hrow0] at hst
  have hrow' : rw' = (setAt cs.toList (i * es + off) (a.eval y).cells.toList).toArray := hrow0
  have hrs : rw'.size = cs.size := by rw [hrow', List.size_toArray, setAt_length _ _ _ ho']; simp
  have hrdj : ∀ j, rw'.getD j undef = if i * es + off ≤ j ∧ j < i * es + off + vs.length then (a.eval y).cells.getD (j - (i * es + off)) undef else cs.getD j undef := by
    intro j
    rw [← getD_toList, hrow', List.toList_toArray, setAt_getD _ _ _ _ ho', h9']
    split <;> rw [getD_toList]
  have hr : (execOp a.eval ⟨none, .store u x y, t, pos, af, g⟩).run P w = .ok .skip (w.setRow bi.b rw') := by
    have : (a.eval y).cells.size = ci.size := by rw [h9, hl, hI.size]
    simp [execOp, e1, Instr.storeAt, Instr.sureAddr, storeVar, sizeOf, typeInfo, hI.info, this] at hst ⊢
    rw [hst]
    rfl
  unfold Oper.wp
  rw [hr]
  have hw := hs.hh.write (k' := .ar pin e es (rows.set i (setAt row off vs)) true) hb rfl hbi h8 (w' := w.setRow bi.b rw')
    (by simp) (fun b hb => setRow_other w _ _ _ hb) rfl rfl rfl (fun hm => ⟨b1, by rw [List.length_set]; exact b2, rw', setRow_heap w _ cs _ e _ b3, b4, b5, by rw [hrs]; exact b6, fun i' hi' => ?_, fun _ => h8, (fun q => by cases q), b9.2⟩)
  · exact hn _ _ _ _ ⟨hw.1, fun u x q => hw.2 (hs.henv u x q), hs.hsize, hs.hdefers⟩
  · rw [List.length_set] at hi'
    have hmn : ∀ {v x}, VR nb S w v x → VR nb S (w.setRow bi.b rw') v x := fun q => q.mono (fun _ _ q => q) (fun b o q => ⟨q, World.cell?_of_block (a := ⟨b, o, none⟩) (setRow_other w _ _ _ (fun e : b = bi.b => h8 o (e ▸ q)))⟩)
    by_cases hii : i' = i
    · subst hii
      have hg : (rows.set i' (setAt row off vs)).getD i' [] = setAt row off vs := by simp [List.getD_eq_getElem?_getD, hi']
      rw [hg]
      have hsl : (setAt row off vs).length = es := by rw [setAt_length _ _ _ (by omega)]; exact hrl
      refine ⟨hsl, fun j hj => ?_⟩
      rw [setAt_getD _ _ _ _ (by omega), hrdj]
      by_cases hin : off ≤ j ∧ j < off + vs.length
      · rw [if_pos hin, if_pos (by omega), show i' * es + j - (i' * es + off) = j - off by omega]
        have := h10 (j - off) (by omega)
        rw [Nat.zero_add] at this
        exact ⟨hmn (closedS_nb (all_getD hcl (by omega)) this.1), this.2⟩
      · rw [if_neg hin, if_neg (by omega)]
        have := (b7 i' hi').2 j (by rw [hrd]; omega)
        rw [hrd] at this
        exact ⟨hmn this.1, this.2⟩
    · have hg : (rows.set i (setAt row off vs)).getD i' [] = rows.getD i' [] := by simp [List.getD_eq_getElem?_getD, Ne.symm hii]
      rw [hg]
      refine ⟨(b7 i' hi').1, fun j hj => ?_⟩
      have hje : j < es := by rw [← (b7 i' hi').1]; exact hj
      rw [hrdj, if_neg]
      · have := (b7 i' hi').2 j hj
        exact ⟨hmn this.1, this.2⟩
      · intro hc
        rcases Nat.lt_or_ge i' i with q | q
        · have : (i' + 1) * es ≤ i * es := Nat.mul_le_mul_right _ (by omega)
          rw [Nat.add_mul] at this
          omega
        · have : (i + 1) * es ≤ i' * es := Nat.mul_le_mul_right _ (by omega)
          rw [Nat.add_mul] at this
          omega

theorem m_storeA (hty : TyOK P ty) {pin : Option BI} {u : Nat} {ui : TI} {x y : Operand} {id i off e es : Nat} {v : AV} {rows : List (List AV)} {row vs row' : List AV} (hi : ty u = some ui) (hx : evO s x = some (.aptr id i off)) (hy : evO s y = some v)
    (hb : s.blk id = some (.ar pin e es rows true)) (hrow : rows[i]? = some row) (hv : cellsV v = some vs) (hl : Nat.beq vs.length ui.size = true) (ho : Nat.ble (off + vs.length) es = true) (hcl : vs.all closedS = true) (hc : setAt row off vs = row') :
    MStep P w0 nt ⟨none, .store u x y, t, pos, af, g⟩ s .any [(id, .ar pin e es (rows.set i row') true)] :=
  fun _ hle _ => ok_storeA hty hi (evO_mono hle hx) (evO_mono hle hy) (hle.2 _ _ hb) hrow hv hl ho hcl hc

end
end Go.Aw
