/-
  Rules: appends.
-/
import Derived.Test.YtpnjflimilamdaaGreatAw8
namespace Go.Aw
open Go.RowKit

def cellsAt (w : World) (b o k : Nat) : List Value := (List.range k).map fun m => (w.cell? ⟨b, o + m, none⟩).getD undef

theorem cellsAt_length (w : World) (b o k : Nat) : (cellsAt w b o k).length = k := by simp [cellsAt]
theorem cellsAt_getD (w : World) (b o k m : Nat) (hm : m < k) {u : Value} (h : w.cell? ⟨b, o + m, none⟩ = some u) : (cellsAt w b o k).getD m undef = u := by
  simp [cellsAt, List.getD_eq_getElem?_getD, hm, h]

/-- The cells of rows that can be read, one behind the other. -/
theorem cellsAt_src {w : World} {b o es n : Nat} (h : ∀ i, i < n → ∀ j, j < es → ∃ u, w.cell? ⟨b, o + (i * es + j), none⟩ = some u ∧ u.oneCell' = true) :
    (∀ m u, (cellsAt w b o (n * es))[m]? = some u → w.cell? ((⟨b, o, none⟩ : Addr).add m) = some u) ∧ ∀ u ∈ cellsAt w b o (n * es), u.oneCell' = true := by
  have key : ∀ m, m < n * es → ∃ u, w.cell? ⟨b, o + m, none⟩ = some u ∧ u.oneCell' = true := by
    intro m hm
    have hes : 0 < es := by
      rcases Nat.eq_zero_or_pos es with e | e
      · subst e; simp at hm
      · exact e
    obtain ⟨u, h1, h2⟩ := h (m / es) ((Nat.div_lt_iff_lt_mul hes).2 hm) (m % es) (Nat.mod_lt _ hes)
    rw [Nat.mul_comm (m / es) es, Nat.div_add_mod] at h1
    exact ⟨u, h1, h2⟩
  constructor
  · intro m u hu
    have hm : m < n * es := by
      have := (List.getElem?_eq_some_iff.1 hu).1
      rwa [cellsAt_length] at this
    obtain ⟨u', h1, _⟩ := key m hm
    have := cellsAt_getD w b o (n * es) m hm h1
    rw [List.getD_eq_getElem?_getD, hu] at this
    simp only [Option.getD_some] at this
    rw [addr_add, h1, this]
  · intro u hu
    obtain ⟨m, hm, rfl⟩ := List.mem_iff_getElem.1 hu
    rw [cellsAt_length] at hm
    obtain ⟨u', h1, h2⟩ := key m hm
    have := cellsAt_getD w b o (n * es) m hm h1
    have e : (cellsAt w b o (n * es)).getD m undef = (cellsAt w b o (n * es))[m]'(by rw [cellsAt_length]; exact hm) := by
      simp [List.getD_eq_getElem?_getD, cellsAt_length, hm]
    rw [← e, this]; exact h2

theorem getD_app_left {α : Type} (l r : List α) (d : α) {m : Nat} (h : m < l.length) : (l ++ r).getD m d = l.getD m d := by
  simp [List.getD_eq_getElem?_getD, List.getElem?_append_left h]
theorem getD_app_right {α : Type} (l r : List α) (d : α) (m : Nat) : (l ++ r).getD (l.length + m) d = r.getD m d := by
  simp [List.getD_eq_getElem?_getD, List.getElem?_append_right]

theorem mul_lt_of {i n es j : Nat} (hi : i < n) (hj : j < es) : i * es + j < n * es := by
  have : (i + 1) * es ≤ n * es := Nat.mul_le_mul_right _ hi
  rw [Nat.add_mul] at this; omega

section
variable {P : Program} {ty : Ty} {w0 : B0} {nt : Nat} {s : AS} {d : Option Nat} {t : TypeId} {pos : String} {af : Array Edge} {g : Option (Nat × Bool)}

/-- A fresh row: old cells, new ones, and room. -/
theorem fresh_rows {S S' : St} {w w' : World} {olds news : List Value} {rest : List Value} {es : Nat} {rows rows2 : List (List AV)} (hl1 : olds.length = rows.length * es) (hl2 : news.length = rows2.length * es)
    (h1 : ∀ i, i < rows.length → (rows.getD i []).length = es ∧ ∀ j, j < es → VR nb S w (olds.getD (i * es + j) undef) ((rows.getD i []).getD j .any) ∧ (olds.getD (i * es + j) undef).oneCell' = true)
    (h2 : ∀ i, i < rows2.length → (rows2.getD i []).length = es ∧ ∀ j, j < es → VR nb S w (news.getD (i * es + j) undef) ((rows2.getD i []).getD j .any) ∧ (news.getD (i * es + j) undef).oneCell' = true)
    (hv : ∀ {v x}, VR nb S w v x → VR nb S' w' v x) :
    ∀ i, i < (rows ++ rows2).length → ((rows ++ rows2).getD i []).length = es ∧ CR nb S' w' (olds ++ news ++ rest).toArray (i * es) ((rows ++ rows2).getD i []) := by
  intro i hi
  rw [List.length_append] at hi
  by_cases hlt : i < rows.length
  · rw [getD_app_left _ _ _ hlt]
    obtain ⟨q1, q2⟩ := h1 i hlt
    refine ⟨q1, fun j hj => ?_⟩
    rw [q1] at hj
    have hb := mul_lt_of hlt hj
    rw [← getD_toList, List.toList_toArray, List.append_assoc, getD_app_left _ _ _ (by omega)]
    exact ⟨hv (q2 j hj).1, (q2 j hj).2⟩
  · obtain ⟨k, rfl⟩ : ∃ k, i = rows.length + k := ⟨i - rows.length, by omega⟩
    rw [getD_app_right]
    obtain ⟨q1, q2⟩ := h2 k (by omega)
    refine ⟨q1, fun j hj => ?_⟩
    rw [q1] at hj
    have hb := mul_lt_of (show k < rows2.length by omega) hj
    rw [← getD_toList, List.toList_toArray, List.append_assoc, Nat.add_mul, show rows.length * es + k * es + j = olds.length + (k * es + j) from by rw [hl1]; omega, getD_app_right, getD_app_left _ _ _ (by omega)]
    exact ⟨hv (q2 j hj).1, (q2 j hj).2⟩

theorem src_cells {w : World} {S : St} {b o es : Nat} {rows : List (List AV)}
    (h : ∀ i, i < rows.length → (rows.getD i []).length = es ∧ ∀ j, j < es → ∃ u, w.cell? ⟨b, o + (i * es + j), none⟩ = some u ∧ u.oneCell' = true ∧ VR nb S w u ((rows.getD i []).getD j .any)) :
    ∀ i, i < rows.length → (rows.getD i []).length = es ∧ ∀ j, j < es → VR nb S w ((cellsAt w b o (rows.length * es)).getD (i * es + j) undef) ((rows.getD i []).getD j .any) ∧ ((cellsAt w b o (rows.length * es)).getD (i * es + j) undef).oneCell' = true := by
  intro i hi
  refine ⟨(h i hi).1, fun j hj => ?_⟩
  obtain ⟨u, h1, h2, h3⟩ := (h i hi).2 j hj
  rw [cellsAt_getD w b o _ _ (mul_lt_of hi hj) h1]
  exact ⟨h3, h2⟩

theorem ok_append0 {u e : TypeId} {x y : Operand} {p q : AV} {es : Nat} {rows : List (List AV)} {es2 : Nat} (hty : TyOK P ty) {ui ei : TI} (hui : ty u = some ui) (hd1 : ui.desc = .slice e) (hei : ty e = some ei) (hx : evO s x = some p) (hp : srcRows s.blk p = some (es, rows))
    (hy : evO s y = some q) (hq : srcRows s.blk q = some (es2, [])) (hd : dOK nt d = true) :
    OkOp P w0 nt ⟨d, .call { callee := .builtin .append, args := #[x, y], argTypes := #[u, u] }, t, pos, af, g⟩ s (s.put d p) :=
  ok_value hd fun β S a w hs => by
    obtain ⟨_, _, _, hU⟩ := hty.get hui
    obtain ⟨ci, _, _, hE⟩ := hty.get hei
    have h1 := evO_ok hs hx
    have h2 := evO_ok hs hy
    have len1 : ∃ ad n c, a.eval x = .slice ad n c ∧ n ≤ c := by
      generalize a.eval x = cx at h1
      cases h1 with
      | lst0 => exact ⟨_, _, _, rfl, Nat.le_refl _⟩
      | lstZ => exact ⟨_, _, _, rfl, Nat.le_refl _⟩
      | lst b o n c es' rows' full cells h1 h2 h3 h4 h5 h6 => exact ⟨_, _, _, rfl, h2⟩
      | arr id bi hbi =>
        refine ⟨_, _, _, rfl, ?_⟩
        simp only [srcRows] at hp
        split at hp
        · rename_i hk
          obtain ⟨bi2, e1, q2, _⟩ := hs.hh.hblk id _ hk
          rw [hbi] at e1
          obtain rfl := Option.some.inj e1
          exact q2.2.2.choose_spec.2.1
        · rename_i hk
          obtain ⟨bi2, e1, q2, _⟩ := hs.hh.hblk id _ hk
          rw [hbi] at e1
          obtain rfl := Option.some.inj e1
          exact q2.2.2.1
        · cases hp
      | _ => simp [srcRows] at hp
    have len2 : ∃ ad c, a.eval y = .slice ad 0 c := by
      generalize a.eval y = cy at h2
      cases h2 with
      | lst0 => exact ⟨_, _, rfl⟩
      | lstZ => exact ⟨_, _, rfl⟩
      | lst b o n c es' rows' full cells h1 h2 h3 h4 h5 h6 =>
        simp only [srcRows, Option.some.injEq, Prod.mk.injEq] at hq
        obtain ⟨_, rfl⟩ := hq
        obtain rfl : n = 0 := h1.symm
        exact ⟨_, _, rfl⟩
      | arr id bi hbi =>
        simp only [srcRows] at hq
        split at hq
        · rename_i hk
          obtain ⟨bi2, e1, q2, _⟩ := hs.hh.hblk id _ hk
          rw [hbi] at e1
          obtain rfl := Option.some.inj e1
          simp only [Option.some.injEq, Prod.mk.injEq] at hq
          exact ⟨_, _, by rw [q2.2.1, hq.2]; rfl⟩
        · rename_i hk
          obtain ⟨bi2, e1, q2, _⟩ := hs.hh.hblk id _ hk
          rw [hbi] at e1
          obtain rfl := Option.some.inj e1
          simp only [Option.some.injEq, Prod.mk.injEq] at hq
          exact ⟨_, _, by rw [q2.2.1, hq.2]; rfl⟩
        · cases hq
      | _ => simp [srcRows] at hq
    obtain ⟨ad, n, c, e1, hnc⟩ := len1
    obtain ⟨ad2, c2, e2⟩ := len2
    refine ⟨a.eval x, ?_, h1⟩
    have hf : (Builtin.firstCells ci.size 0 (.slice ad2 0 c2)).run P w = .ok #[] w := by
      cases ad2 <;> simp [Builtin.firstCells, loadCells, loadCellsFrom]
    have : (Builtin.append_ #[u, u] t #[.slice ad n c, .slice ad2 0 c2]).run P w = .ok (.slice ad n c) w := by
      have hst : ∀ z : Addr, (storeCells z [] 0).run P w = .ok () w := fun z => rfl
      cases ad <;> simp [Builtin.append_, run_underlying (hU.slice hd1), sizeOf, typeInfo, hE.info, Builtin.lenOf, hnc, hf, hst]
    simp [execOp, resolve, invoke, builtin, e1, e2, this]

theorem ok_appendF (hty : TyOK P ty) {u e : Nat} {ui ei : TI} {x y : Operand} {q : AV} {es es2 : Nat} {rows rows2 : List (List AV)} (id : Nat) (hui : ty u = some ui) (hd1 : ui.desc = .slice e) (hei : ty e = some ei)
    (hid : s.blk id = none) (hx : evO s x = some (.lst es rows true)) (hes : (rows.isEmpty || Nat.beq es ei.size) = true) (hy : evO s y = some q) (hq : srcRows s.blk q = some (es2, rows2)) (hes2 : Nat.beq es2 ei.size = true)
    (hne : rows2 ≠ []) (hb : (rows.length + rows2.length) * ei.bytes ≤ 140737488355328) (hb0 : Nat.blt 0 ei.bytes = true) (hd : dOK nt d = true) :
    OkOp P w0 nt ⟨d, .call { callee := .builtin .append, args := #[x, y], argTypes := #[u, u] }, t, pos, af, g⟩ s ((s.setB id (.arr e ei.size (rows ++ rows2) true)).put d (.arr id)) := by
  intro β S a w next Q hs hn
  have hb0 := blt_lt hb0
  obtain rfl := Nat.eq_of_beq_eq_true hes2
  obtain ⟨_, _, _, hU⟩ := hty.get hui
  obtain ⟨ci, dd, z, hE⟩ := hty.get hei
  have h1 := evO_ok hs hx
  have h2 := evO_ok hs hy
  obtain ⟨b2, o2, c2, e2, hsrc⟩ := src_ok hs.hh h2 hq hne
  obtain ⟨hn1, hn2⟩ := cellsAt_src (w := w) (b := b2) (o := o2) (n := rows2.length) (fun i hi j hj => by obtain ⟨u, q1, q2, _⟩ := (hsrc i hi).2 j hj; exact ⟨u, q1, q2⟩)
  have hlen : 0 < rows2.length := List.length_pos_iff.2 hne
  have hsmall : rows.length + rows2.length ≤ 140737488355328 := by
    have : (rows.length + rows2.length) * 1 ≤ (rows.length + rows2.length) * ei.bytes := Nat.mul_le_mul_left _ hb0
    omega
  have fin : ∀ (olds : List Value) (cap : Nat) (w' : World), olds.length = rows.length * ei.size →
      (∀ i, i < rows.length → (rows.getD i []).length = ei.size ∧ ∀ j, j < ei.size → VR nb S w (olds.getD (i * ei.size + j) undef) ((rows.getD i []).getD j .any) ∧ (olds.getD (i * ei.size + j) undef).oneCell' = true) →
      rows.length + rows2.length ≤ cap → cap ≤ maxLen →
      w' = w.drew.alloc (.cells (olds.toArray ++ (cellsAt w b2 o2 (rows2.length * ei.size)).toArray ++ Builtin.zeroCells z.cells (cap - (rows.length + rows2.length))) e) →
      next (a.put d (.slice (some ⟨w.heap.size, 0, none⟩) (rows.length + rows2.length) cap)) w' := by
    intro olds cap w' ho1 ho2 hc1 hc2 hw'
    have hB : Below w.heap.size w w' := by rw [hw']; exact (Below.refl _ _).drew.alloc (Nat.le_refl _) _
    have hext : ∀ {v x}, VR nb S w v x → VR nb S w' v x := fun q => q.mono (fun _ _ q => q) (fun b o q => ⟨q, cell_lt hB (hs.hh.hlt b o q)⟩)
    have hheap : w'.heap[w.heap.size]? = some (.cells (olds ++ cellsAt w b2 o2 (rows2.length * ei.size) ++ (Builtin.zeroCells z.cells (cap - (rows.length + rows2.length))).toList).toArray e (0, 0)) := by
      rw [hw', show w.heap.size = w.drew.heap.size from rfl, heap_alloc_new]
      congr 2
      apply Array.ext'
      simp
    refine hn _ _ _ _ (ok_new hs hB hid hd (bi := ⟨w.heap.size, rows.length + rows2.length, cap, ei.size⟩) (Nat.le_refl _) ⟨rfl, by simp, _, hheap, hc1, hc2, ?_, ?_, fun _ o q => absurd (hs.hh.hlt _ _ q) (Nat.lt_irrefl _), (fun q => by cases q), fun _ q => by cases q⟩ (fun h => .arr _ _ h))
    · simp only [List.size_toArray, List.length_append, ho1, cellsAt_length, Array.length_toList, size_zeroCells, hE.zsize]
      rw [← Nat.add_mul, ← Nat.add_mul]
      congr 1
      omega
    · exact fresh_rows ho1 (cellsAt_length _ _ _ _) ho2 (src_cells hsrc) hext
  have hfin : ∀ v' w', (Builtin.append_ #[u, u] t #[a.eval x, a.eval y]).run P w = .ok v' w' → next (a.put d v') w' → (Oper.wp P ⟨d, .call { callee := .builtin .append, args := #[x, y], argTypes := #[u, u] }, t, pos, af, g⟩ a w next Q) := by
    intro v' w' hr hnx
    unfold Oper.wp execOp
    simp [resolve, invoke, builtin, hr]
    exact hnx
  have hl2 : (cellsAt w b2 o2 (rows2.length * ei.size)).length = rows2.length * ci.size := by rw [cellsAt_length, hE.size]
  generalize e1 : a.eval x = cx at h1
  rw [e1, e2] at hfin
  cases h1 with
  | lst0 =>
    have hr := run_append_nil (P := P) w u t e ci z (hU.slice hd1) hE.info hE.zero ⟨b2, o2, none⟩ rows2.length c2 (cellsAt w b2 o2 (rows2.length * ei.size)) hl2 hn1 hlen (by omega) (by
      rw [hE.bytes]; simp only [List.length_nil, Nat.zero_add] at hb; omega)
    refine hfin _ _ hr ?_
    have := fin [] (grownCap w rows2.length 0 e) _ (by simp) (fun i hi => by simp at hi) (by simpa using grownCap_ge w rows2.length 0 e) (grownCap_le_maxLen w _ _ _ (by simp only [maxLen]; omega)) rfl
    simpa using this
  | lst b o n c es' rows' full cells q1 q2 q3 q4 q5 q6 =>
    obtain rfl : c = n := q3 rfl
    subst q1
    have hrows : ∀ i, i < rows.length → (rows.getD i []).length = ei.size ∧ ∀ j, j < ei.size → ∃ u, w.cell? ⟨b, o + (i * ei.size + j), none⟩ = some u ∧ u.oneCell' = true ∧ VR nb S w u ((rows.getD i []).getD j .any) := by
      intro i hi
      have he : es = ei.size := by
        rcases Bool.or_eq_true _ _ ▸ hes with q | q
        · rw [List.isEmpty_iff] at q; subst q; simp at hi
        · exact Nat.eq_of_beq_eq_true q
      subst he
      refine ⟨q4 i hi, fun j hj => ?_⟩
      obtain ⟨_, r2, r3⟩ := q5 i j hi hj
      exact ⟨_, by rw [← Nat.add_assoc]; exact r2, r3, q6 i j hi hj⟩
    obtain ⟨ho1, _⟩ := cellsAt_src (w := w) (b := b) (o := o) (n := rows.length) (fun i hi j hj => by obtain ⟨u, q1, q2, _⟩ := (hrows i hi).2 j hj; exact ⟨u, q1, q2⟩)
    have hr := run_append_grow (P := P) w u t e ci z (hU.slice hd1) hE.info hE.zero ⟨b, o, none⟩ rows.length rows.length (cellsAt w b o (rows.length * ei.size)) (by rw [cellsAt_length, hE.size]) ho1
      ⟨b2, o2, none⟩ rows2.length c2 (cellsAt w b2 o2 (rows2.length * ei.size)) hl2 hn1 (by omega) (by omega) (growslice_fits (by omega) (by rw [hE.bytes]; omega))
    refine hfin _ _ hr ?_
    exact fin (cellsAt w b o (rows.length * ei.size)) _ _ (cellsAt_length _ _ _ _) (src_cells hrows) (grownCap_ge w _ _ e) (grownCap_le_maxLen w _ _ _ (by simp only [maxLen]; omega)) rfl

end
end Go.Aw
