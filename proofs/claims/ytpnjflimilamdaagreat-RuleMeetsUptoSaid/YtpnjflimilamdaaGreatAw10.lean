/-
  Rules: appends to an array of the call's own.
-/
import Derived.Test.YtpnjflimilamdaaGreatAw9
namespace Go.Aw
open Go.RowKit

theorem ro_of_arr {β : Bt} {S : St} {w : World} {bi : BI} {e es : Nat} {rows : List (List AV)} (h : BR β S w bi (.arr e es rows false)) : BR β S w bi (.ro e es rows) := by
  obtain ⟨h3, h4, cs, h5, h6, h7, h8, h9, _, h10, _⟩ := h
  refine ⟨h3, h4, h6, fun i hi => ⟨(h9 i hi).1, fun j hj => ?_⟩⟩
  have hrow := h9 i hi
  have hlt : i * es + j < bi.n * es := by rw [h4]; exact mul_lt_of hi hj
  have hsz : i * es + j < cs.size := by rw [h8]; exact Nat.lt_of_lt_of_le hlt (Nat.mul_le_mul_right _ h6)
  exact ⟨(h10 rfl _).2 hlt, cs.getD (i * es + j) undef, by simp [World.cell?, h5, Array.getD, hsz], (hrow.2 j (by rw [hrow.1]; exact hj)).2, (hrow.2 j (by rw [hrow.1]; exact hj)).1⟩

theorem HR.app {w0 : B0} {w w' : World} {β : Bt} {S : St} {blk : Bk} (h : HR w0 β S blk w) {id0 id e es : Nat} {rows rows' : List (List AV)} {bi : BI} (hk : blk id0 = some (.arr e es rows false)) (hbi : β id0 = some bi) (hid : blk id = none)
    (hsz : w'.heap.size = w.heap.size) (hot : ∀ b, b ≠ bi.b → w'.heap[b]? = w.heap[b]?) (hos : w'.os = w.os) (htp : w'.tape = w.tape) (hout : w'.output = w.output) {cs' : Array Value}
    (hcs : w'.heap[bi.b]? = some (.cells cs' e (0, 0))) (hcz : cs'.size = bi.c * es) (hpre : ∀ o, o < bi.n * es → w'.cell? ⟨bi.b, o, none⟩ = w.cell? ⟨bi.b, o, none⟩) (hn : bi.n ≤ rows'.length) (hc : rows'.length ≤ bi.c)
    (hrows : ∀ {S'}, (∀ {v x}, VR nb S w v x → VR nb S' w' v x) → ∀ i, i < rows'.length → (rows'.getD i []).length = es ∧ CR nb S' w' cs' (i * es) (rows'.getD i [])) :
    ∃ S', HR w0 (upd β id ⟨bi.b, rows'.length, bi.c, es⟩) S' (upd (upd blk id0 (.ro e es rows)) id (.arr e es rows' false)) w' ∧ ∀ {v x}, VR β S w v x → VR (upd β id ⟨bi.b, rows'.length, bi.c, es⟩) S' w' v x := by
  obtain ⟨bi2, e1, hbr, hge⟩ := h.hblk id0 _ hk
  rw [hbi] at e1
  obtain rfl := Option.some.inj e1
  have hblt := hbr.lt rfl
  obtain ⟨b3, b4, cs, b5, b6, b7, b8, b9, b10, b11⟩ := hbr
  have hne : id0 ≠ id := fun q => by rw [q, hid] at hk; cases hk
  have hβn : β id = none := by
    cases q : β id with
    | none => rfl
    | some b => obtain ⟨k, hk2⟩ := h.hdom id b q; rw [hid] at hk2; cases hk2
  have hb' : ∀ i b, β i = some b → upd β id ⟨bi.b, rows'.length, bi.c, es⟩ i = some b := by
    intro i b q
    by_cases e : i = id
    · subst e; rw [hβn] at q; cases q
    · rw [upd_other _ _ e]; exact q
  have hSm : ∀ b o, S b o → (S b o ∨ (b = bi.b ∧ o < rows'.length * es)) ∧ w'.cell? ⟨b, o, none⟩ = w.cell? ⟨b, o, none⟩ := by
    intro b o q
    refine ⟨.inl q, ?_⟩
    by_cases e : b = bi.b
    · subst e; exact hpre o ((b11.1 rfl o).1 q)
    · exact World.cell?_of_block (hot b e)
  have hv : ∀ {v x}, VR β S w v x → VR (upd β id ⟨bi.b, rows'.length, bi.c, es⟩) (fun b o => S b o ∨ (b = bi.b ∧ o < rows'.length * es)) w' v x := fun q => q.mono hb' hSm
  have hblk : ∀ i kk, i ≠ id → upd (upd blk id0 (.ro e es rows)) id (.arr e es rows' false) i = some kk → (i = id0 ∧ kk = .ro e es rows) ∨ (i ≠ id0 ∧ blk i = some kk) := by
    intro i kk hi q
    rw [upd_other _ _ hi] at q
    by_cases e2 : i = id0
    · subst e2; rw [upd_same] at q; exact .inl ⟨rfl, (Option.some.inj q).symm⟩
    · rw [upd_other _ _ e2] at q; exact .inr ⟨e2, q⟩
  refine ⟨fun b o => S b o ∨ (b = bi.b ∧ o < rows'.length * es), ⟨?_, ?_, ?_, fun b o q => .inl (h.hold b o q), fun b o q hlt => q.elim (fun q => h.hnew b o q hlt) (fun q => absurd (q.1 ▸ hlt) (hge rfl)), ?_, ?_⟩, hv⟩
  · intro i kk q
    by_cases ei : i = id
    · subst ei
      rw [upd_same] at q
      obtain rfl := Option.some.inj q
      refine ⟨_, upd_same _ _ _, ⟨rfl, rfl, cs', hcs, hc, b7, hcz, hrows (fun q => q.mono (fun _ _ q => q) hSm), (fun q => by cases q), (fun _ o => ⟨fun q => ?_, fun q => .inr ⟨rfl, q⟩⟩), fun _ q => by cases q⟩, fun _ => hge rfl⟩
      rcases q with q | q
      · have := (b11.1 rfl o).1 q
        exact Nat.lt_of_lt_of_le this (Nat.mul_le_mul_right _ hn)
      · exact q.2
    · rcases hblk i kk ei q with ⟨rfl, rfl⟩ | ⟨e2, q⟩
      · refine ⟨bi, hb' _ _ hbi, ?_, fun q => by cases q⟩
        have hro := ro_of_arr (β := β) (S := S) (w := w) (bi := bi) ⟨b3, b4, cs, b5, b6, b7, b8, b9, b10, b11⟩
        exact hro.ext hb' hSm (fun q => by cases q) (fun q => by cases q)
      · obtain ⟨b2, h1, h2, h3⟩ := h.hblk i kk q
        have hneb : kk.live = true → b2.b ≠ bi.b := fun hl2 => h.hinj i id0 b2 bi kk _ e2 q hl2 hk rfl h1 hbi
        refine ⟨b2, hb' _ _ h1, h2.ext hb' hSm (fun hl2 => hot _ (hneb hl2)) (fun hl2 o q2 => ?_), h3⟩
        rcases q2 with q3 | ⟨q3, _⟩
        · exact q3
        · exact absurd q3 (hneb hl2)
  · intro i b q
    by_cases ei : i = id
    · subst ei; exact ⟨_, upd_same _ _ _⟩
    · rw [upd_other _ _ ei] at q
      by_cases e2 : i = id0
      · subst e2; exact ⟨_, by rw [upd_other _ _ ei, upd_same]⟩
      · obtain ⟨k2, hk2⟩ := h.hdom i b q
        exact ⟨k2, by rw [upd_other _ _ ei, upd_other _ _ e2]; exact hk2⟩
  · have one : ∀ j bj kj, j ≠ id → upd (upd blk id0 (.ro e es rows)) id (.arr e es rows' false) j = some kj → kj.live = true → upd β id ⟨bi.b, rows'.length, bi.c, es⟩ j = some bj → bj.b ≠ bi.b := by
      intro j bj kj hj q2 l2 p2
      rw [upd_other _ _ hj] at p2
      rcases hblk j kj hj q2 with ⟨rfl, rfl⟩ | ⟨e2, q2⟩
      · cases l2
      · exact h.hinj j id0 bj bi kj _ e2 q2 l2 hk rfl p2 hbi
    intro i j b1 b2 k1 k2 hne2 q1 l1 q2 l2 p1 p2
    by_cases ei : i = id
    · subst ei
      rw [upd_same] at p1
      obtain rfl := Option.some.inj p1
      exact fun q => one j b2 k2 (fun e => hne2 e.symm) q2 l2 p2 q.symm
    · by_cases ej : j = id
      · subst ej
        rw [upd_same] at p2
        obtain rfl := Option.some.inj p2
        exact one i b1 k1 ei q1 l1 p1
      · rw [upd_other _ _ ei] at p1
        rw [upd_other _ _ ej] at p2
        rcases hblk i k1 ei q1 with ⟨rfl, rfl⟩ | ⟨e2, q1⟩
        · cases l1
        · rcases hblk j k2 ej q2 with ⟨rfl, rfl⟩ | ⟨e3, q2⟩
          · cases l2
          · exact h.hinj i j b1 b2 k1 k2 hne2 q1 l1 q2 l2 p1 p2
  · intro b o q
    rw [hsz]
    rcases q with q | ⟨rfl, _⟩
    · exact h.hlt b o q
    · exact hblt
  · refine ⟨hos.trans h.hbelow.os, htp.trans h.hbelow.tape, hout.trans h.hbelow.output, by rw [hsz]; exact h.hbelow.size, fun b hb => ?_⟩
    rw [hot b (fun e => hge rfl (e ▸ hb))]
    exact h.hbelow.block b hb

section
variable {P : Program} {ty : Ty} {w0 : B0} {nt : Nat} {s : AS} {d : Option Nat} {t : TypeId} {pos : String} {af : Array Edge} {g : Option (Nat × Bool)}

theorem setB_eq {s : AS} {id0 id : Nat} {k0 k : AB} : ((s.setB id0 k0).setB id k) = ⟨s.env, upd (upd s.blk id0 k0) id k⟩ := rfl

theorem ok_appendA (hty : TyOK P ty) {u e : Nat} {ui ei : TI} {x y : Operand} {q : AV} {id0 es es2 : Nat} {rows rows2 : List (List AV)} {wr : Bool} (id : Nat) (hui : ty u = some ui) (hd1 : ui.desc = .slice e) (hei : ty e = some ei)
    (hid : s.blk id = none) (hx : evO s x = some (.arr id0)) (hk : s.blk id0 = some (.arr e es rows wr)) (hes : Nat.beq es ei.size = true) (hy : evO s y = some q) (hq : srcRows s.blk q = some (es2, rows2)) (hes2 : Nat.beq es2 ei.size = true)
    (hne : rows2 ≠ []) (hb : (rows.length + rows2.length) * ei.bytes ≤ 140737488355328) (hb0 : Nat.blt 0 ei.bytes = true) (hd : dOK nt d = true) :
    OkOp P w0 nt ⟨d, .call { callee := .builtin .append, args := #[x, y], argTypes := #[u, u] }, t, pos, af, g⟩ s (((s.setB id0 (.ro e es rows)).setB id (.arr e es (rows ++ rows2) false)).put d (.arr id)) := by
  intro β S a w next Q hs hn
  have hb0 := blt_lt hb0
  obtain rfl := Nat.eq_of_beq_eq_true hes2
  obtain rfl := Nat.eq_of_beq_eq_true hes
  obtain ⟨_, _, _, hU⟩ := hty.get hui
  obtain ⟨ci, dd, z, hE⟩ := hty.get hei
  have h1 := evO_ok hs hx
  have h2 := evO_ok hs hy
  obtain ⟨b2, o2, c2, e2, hsrc⟩ := src_ok hs.hh h2 hq hne
  obtain ⟨hn1, hn2⟩ := cellsAt_src (w := w) (b := b2) (o := o2) (n := rows2.length) (fun i hi j hj => by obtain ⟨u, q1, q2, _⟩ := (hsrc i hi).2 j hj; exact ⟨u, q1, q2⟩)
  have hlen : 0 < rows2.length := List.length_pos_iff.2 hne
  have hsmall : rows.length + rows2.length ≤ 140737488355328 := by
    have : (rows.length + rows2.length) * 1 ≤ (rows.length + rows2.length) * ei.bytes := Nat.mul_le_mul_left _ hb0
    omega
  have hl2 : (cellsAt w b2 o2 (rows2.length * ei.size)).length = rows2.length * ci.size := by rw [cellsAt_length, hE.size]
  generalize e1 : a.eval x = cx at h1
  cases h1
  rename_i bi hbi
  obtain ⟨S1, hf, hv1, hvn⟩ := hs.hh.freeze hk hbi
  have hk1 : upd s.blk id0 (.arr e ei.size rows false) id0 = some (.arr e ei.size rows false) := upd_same _ _ _
  have hidne : id ≠ id0 := fun q => by rw [q, hk] at hid; cases hid
  have hid1 : upd s.blk id0 (.arr e ei.size rows false) id = none := by rw [upd_other _ _ hidne]; exact hid
  have hblk2 : upd (upd s.blk id0 (.arr e ei.size rows false)) id0 (.ro e ei.size rows) = upd s.blk id0 (.ro e ei.size rows) := by
    funext i
    by_cases q : i = id0
    · subst q; rw [upd_same, upd_same]
    · rw [upd_other _ _ q, upd_other _ _ q, upd_other _ _ q]
  obtain ⟨bi2, q1, hbr, hge⟩ := hf.hblk id0 _ hk1
  rw [hbi] at q1
  obtain rfl := Option.some.inj q1
  have hbr' := hbr
  obtain ⟨b3, b4, cs, b5, b6, b7, b8, b9, b10, b11⟩ := hbr
  have hrows1 : ∀ i, i < rows.length → (rows.getD i []).length = ei.size ∧ ∀ j, j < ei.size → VR nb S1 w (cs.getD (i * ei.size + j) undef) ((rows.getD i []).getD j .any) ∧ (cs.getD (i * ei.size + j) undef).oneCell' = true :=
    fun i hi => ⟨(b9 i hi).1, fun j hj => (b9 i hi).2 j (by rw [(b9 i hi).1]; exact hj)⟩
  have hrows2 := src_cells (S := S1) (w := w) (b := b2) (o := o2) (es := ei.size) (rows := rows2) (fun i hi => ⟨(hsrc i hi).1, fun j hj => by obtain ⟨u, q1, q2, q3⟩ := (hsrc i hi).2 j hj; exact ⟨u, q1, q2, hvn q3⟩⟩)
  have hfin : ∀ v' w', (Builtin.append_ #[u, u] t #[a.eval x, a.eval y]).run P w = .ok v' w' → next (a.put d v') w' → (Oper.wp P ⟨d, .call { callee := .builtin .append, args := #[x, y], argTypes := #[u, u] }, t, pos, af, g⟩ a w next Q) := by
    intro v' w' hr hnx
    unfold Oper.wp execOp
    simp [resolve, invoke, builtin, hr]
    exact hnx
  rw [e1, e2] at hfin
  have hpl : (cs.toList.take (rows.length * ei.size)).length = rows.length * ei.size := by
    have hz : cs.toList.length = bi.c * ei.size := by simp [b8]
    have := Nat.mul_le_mul_right ei.size b6
    rw [b4] at this
    rw [List.length_take, hz]
    omega
  have hpg : ∀ m, m < rows.length * ei.size → (cs.toList.take (rows.length * ei.size)).getD m undef = cs.getD m undef := by
    intro m hm
    rw [← getD_toList]
    simp only [List.getD_eq_getElem?_getD, List.getElem?_take, if_pos hm]
  have hrowsP : ∀ i, i < rows.length → (rows.getD i []).length = ei.size ∧ ∀ j, j < ei.size → VR nb S1 w ((cs.toList.take (rows.length * ei.size)).getD (i * ei.size + j) undef) ((rows.getD i []).getD j .any) ∧ ((cs.toList.take (rows.length * ei.size)).getD (i * ei.size + j) undef).oneCell' = true := by
    intro i hi
    refine ⟨(hrows1 i hi).1, fun j hj => ?_⟩
    rw [hpg _ (mul_lt_of hi hj)]
    exact (hrows1 i hi).2 j hj
  by_cases hroom : bi.n + rows2.length ≤ bi.c
  · have hfit : bi.n * ci.size + (cellsAt w b2 o2 (rows2.length * ei.size)).length ≤ cs.size := by
      rw [hl2, b8, hE.size, ← Nat.add_mul]; exact Nat.mul_le_mul_right _ hroom
    have hr := run_append_room (P := P) w u t e ci (hU.slice hd1) hE.info bi.b bi.n bi.c cs b5 ⟨b2, o2, none⟩ rows2.length c2 (cellsAt w b2 o2 (rows2.length * ei.size)) hl2 hn1 hn2 hroom hfit
    refine hfin _ _ hr ?_
    rw [b4, hE.size]
    rw [b4, hE.size] at hfit
    rw [b4] at hroom
    have hcell : ∀ m, m < rows.length * ei.size → ((cs.toList.take (rows.length * ei.size) ++ cellsAt w b2 o2 (rows2.length * ei.size) ++ cs.toList.drop (rows.length * ei.size + (cellsAt w b2 o2 (rows2.length * ei.size)).length)).toArray).getD m undef = cs.getD m undef := by
      intro m hm
      rw [← getD_toList, List.toList_toArray, List.append_assoc, getD_app_left _ _ _ (by rw [hpl]; exact hm), hpg m hm]
    have hsz' : ((cs.toList.take (rows.length * ei.size) ++ cellsAt w b2 o2 (rows2.length * ei.size) ++ cs.toList.drop (rows.length * ei.size + (cellsAt w b2 o2 (rows2.length * ei.size)).length)).toArray).size = bi.c * ei.size := by
      simp only [List.size_toArray, List.length_append, hpl, List.length_drop, Array.length_toList]
      omega
    obtain ⟨S2, hh2, hv2⟩ := hf.app (id := id) (rows' := rows ++ rows2) (w' := w.setRow bi.b (cs.toList.take (rows.length * ei.size) ++ cellsAt w b2 o2 (rows2.length * ei.size) ++ cs.toList.drop (rows.length * ei.size + (cellsAt w b2 o2 (rows2.length * ei.size)).length)).toArray)
      hk1 hbi hid1 (by simp) (fun b q => setRow_other w _ _ _ q) rfl rfl rfl (setRow_heap w _ cs _ e _ b5) hsz' (fun o ho => by
        have hlt : o < cs.size := by
          rw [b8]; exact Nat.lt_of_lt_of_le ho (Nat.mul_le_mul_right _ b6)
        have := hcell o (by rw [b4] at ho; exact ho)
        simp only [World.cell?, setRow_heap w _ cs _ e _ b5, b5]
        rw [Array.getD_eq_getD_getElem?, Array.getD_eq_getD_getElem?] at this
        have h3 : o < ((cs.toList.take (rows.length * ei.size) ++ cellsAt w b2 o2 (rows2.length * ei.size) ++ cs.toList.drop (rows.length * ei.size + (cellsAt w b2 o2 (rows2.length * ei.size)).length)).toArray).size := by rw [hsz', ← b8]; exact hlt
        rw [Array.getElem?_eq_getElem h3, Array.getElem?_eq_getElem hlt] at this ⊢
        simpa using this) (by rw [b4, List.length_append]; omega) (by rw [List.length_append]; exact hroom)
      (fun hv => fresh_rows hpl (cellsAt_length _ _ _ _) hrowsP hrows2 hv)
    have hs2 : SR w0 nt (upd β id ⟨bi.b, (rows ++ rows2).length, bi.c, ei.size⟩) S2 ((s.setB id0 (.ro e ei.size rows)).setB id (.arr e ei.size (rows ++ rows2) false)) a _ :=
      ⟨by rw [hblk2] at hh2; exact hh2, fun u y q => hv2 (hv1 (hs.henv u y q)), hs.hsize, hs.hdefers⟩
    have := hs2.put hd (x := .arr id) (.arr id _ (upd_same _ _ _))
    simp only [List.length_append] at this
    exact hn _ _ _ _ this
  · have hread : ∀ i, i < rows.length → ∀ j, j < ei.size → ∃ u, w.cell? ⟨bi.b, 0 + (i * ei.size + j), none⟩ = some u ∧ u.oneCell' = true ∧ VR nb S1 w u ((rows.getD i []).getD j .any) := by
      intro i hi j hj
      have hlt : i * ei.size + j < cs.size := by
        rw [b8]; exact Nat.lt_of_lt_of_le (mul_lt_of hi hj) (Nat.mul_le_mul_right _ (by omega))
      obtain ⟨r1, r2⟩ := (hrows1 i hi).2 j hj
      exact ⟨cs.getD (i * ei.size + j) undef, by rw [Nat.zero_add]; simp [World.cell?, b5, Array.getD, hlt], r2, r1⟩
    obtain ⟨ho1, _⟩ := cellsAt_src (w := w) (b := bi.b) (o := 0) (n := rows.length) (fun i hi j hj => by obtain ⟨u, q1, q2, _⟩ := hread i hi j hj; exact ⟨u, q1, q2⟩)
    have ho2 := src_cells (S := S1) (w := w) (b := bi.b) (o := 0) (es := ei.size) (rows := rows) (fun i hi => ⟨(hrows1 i hi).1, fun j hj => hread i hi j hj⟩)
    have hr := run_append_grow (P := P) w u t e ci z (hU.slice hd1) hE.info hE.zero ⟨bi.b, 0, none⟩ bi.n bi.c (cellsAt w bi.b 0 (rows.length * ei.size)) (by rw [cellsAt_length, hE.size, b4]) ho1
      ⟨b2, o2, none⟩ rows2.length c2 (cellsAt w b2 o2 (rows2.length * ei.size)) hl2 hn1 (by omega) (by omega) (growslice_fits (by omega) (by rw [hE.bytes, b4]; omega))
    refine hfin _ _ hr ?_
    rw [b4]
    generalize hcap : grownCap w (rows.length + rows2.length) bi.c e = cap
    have hc1 : rows.length + rows2.length ≤ cap := hcap ▸ grownCap_ge w _ _ e
    have hc2 : cap ≤ maxLen := hcap ▸ grownCap_le_maxLen w _ _ _ (by simp only [maxLen]; omega)
    generalize hw' : w.drew.alloc (.cells ((cellsAt w bi.b 0 (rows.length * ei.size)).toArray ++ (cellsAt w b2 o2 (rows2.length * ei.size)).toArray ++ Builtin.zeroCells z.cells (cap - (rows.length + rows2.length))) e) = w'
    have hB : Below w.heap.size w w' := by rw [← hw']; exact (Below.refl _ _).drew.alloc (Nat.le_refl _) _
    have hw'sz : w'.heap.size = w.heap.size + 1 := by rw [← hw']; simp
    have hheap : w'.heap[w.heap.size]? = some (.cells (cellsAt w bi.b 0 (rows.length * ei.size) ++ cellsAt w b2 o2 (rows2.length * ei.size) ++ (Builtin.zeroCells z.cells (cap - (rows.length + rows2.length))).toList).toArray e (0, 0)) := by
      rw [← hw', show w.heap.size = w.drew.heap.size from rfl, heap_alloc_new]
      congr 2
      apply Array.ext'
      simp
    have ht := hf.turn (k' := .ro e ei.size rows) (S' := S1) hk1 rfl hbi (fun b o => ⟨.inl, fun q => q.elim (fun q => q) (fun q => q.2)⟩) (fun _ => ro_of_arr hbr')
    rw [hblk2] at ht
    have hid2 : upd s.blk id0 (.ro e ei.size rows) id = none := by rw [upd_other _ _ hidne]; exact hid
    have hβm : ∀ i b, β i = some b → upd β id ⟨w.heap.size, (rows ++ rows2).length, cap, ei.size⟩ i = some b := by
      intro i b q
      by_cases e : i = id
      · subst e
        obtain ⟨k, hk⟩ := hs.hh.hdom i b q
        rw [hid] at hk; cases hk
      · rw [upd_other _ _ e]; exact q
    have hlt : w.heap.size < w'.heap.size := by omega
    have hn2 := ht.1.new hB hid2 (k := .arr e ei.size (rows ++ rows2) false) (bi := ⟨w.heap.size, (rows ++ rows2).length, cap, ei.size⟩) (S' := fun b o => S1 b o ∨ (b = w.heap.size ∧ o < (rows ++ rows2).length * ei.size))
      (fun b o => ⟨fun q => q.elim .inl (fun q => .inr ⟨by omega, by omega, .inr q⟩), fun q => q.elim .inl (fun q => q.2.2)⟩) (Nat.le_refl _)
      ⟨rfl, rfl, _, hheap, by simp only [List.length_append]; exact hc1, hc2, by
        simp only [List.size_toArray, List.length_append, cellsAt_length, Array.length_toList, size_zeroCells, hE.zsize]
        rw [← Nat.add_mul, ← Nat.add_mul]
        congr 1
        omega, fresh_rows (cellsAt_length _ _ _ _) (cellsAt_length _ _ _ _) ho2 hrows2 (fun q => q.mono (fun _ _ q => q) (fun b o q2 => ⟨.inl q2, cell_lt hB (hf.hlt b o q2)⟩)), (fun q => by cases q),
        (fun _ o => ⟨fun q => q.elim (fun q => absurd (hf.hlt _ _ q) (Nat.lt_irrefl _)) (fun q => q.2), fun q => .inr ⟨rfl, q⟩⟩), fun _ q => by cases q⟩
    have hs2 : SR w0 nt (upd β id ⟨w.heap.size, (rows ++ rows2).length, cap, ei.size⟩) (fun b o => S1 b o ∨ (b = w.heap.size ∧ o < (rows ++ rows2).length * ei.size)) ((s.setB id0 (.ro e ei.size rows)).setB id (.arr e ei.size (rows ++ rows2) false)) a w' :=
      ⟨hn2.1, fun u y q => hn2.2 (hv1 (hs.henv u y q)), hs.hsize, hs.hdefers⟩
    have := hs2.put hd (x := .arr id) (.arr id _ (upd_same _ _ _))
    simp only [List.length_append] at this
    exact hn _ _ _ _ this

end
end Go.Aw
