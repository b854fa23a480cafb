/-
  Arrays of the call's own that nobody else has seen: appends and slices in place; calls to which such an array is lent.
-/
import Derived.Test.YtpnjflimilamdaaGreatAw26
namespace Go.Aw
open Go.RowKit

/-- The array's block is told anew, under another number; no cell of it was handed on. -/
theorem HR.appW {w0 : B0} {w w' : World} {β : Bt} {S : St} {blk : Bk} (h : HR w0 β S blk w) {id0 id e es : Nat} {rows rows' : List (List AV)} {bi : BI} (hk : blk id0 = some (.arr e es rows true)) (hbi : β id0 = some bi) (hid : blk id = none)
    (hsz : w'.heap.size = w.heap.size) (hot : ∀ b, b ≠ bi.b → w'.heap[b]? = w.heap[b]?) (hos : w'.os = w.os) (htp : w'.tape = w.tape) (hout : w'.output = w.output) {cs' : Array Value}
    (hcs : w'.heap[bi.b]? = some (.cells cs' e (0, 0))) (hcz : cs'.size = bi.c * es) (hc : rows'.length ≤ bi.c)
    (hrows : (∀ {v x}, VR nb S w v x → VR nb S w' v x) → ∀ i, i < rows'.length → (rows'.getD i []).length = es ∧ CR nb S w' cs' (i * es) (rows'.getD i [])) :
    HR w0 (upd β id ⟨bi.b, rows'.length, bi.c, es⟩) S (upd (upd blk id0 .gone) id (.arr e es rows' true)) w' ∧ ∀ {v x}, VR β S w v x → VR (upd β id ⟨bi.b, rows'.length, bi.c, es⟩) S w' v x := by
  obtain ⟨bi2, e1, hbr, hge⟩ := h.hblk id0 _ hk
  rw [hbi] at e1
  obtain rfl := Option.some.inj e1
  have hblt := hbr.lt rfl
  obtain ⟨b3, b4, cs, b5, b6, b7, b8, b9, b10, b11⟩ := hbr
  have hne : id0 ≠ id := fun q => by rw [q, hid] at hk; cases hk
  have hβn : β id = none := by
    cases q : β id with
    | none => rfl
    | some b => obtain ⟨k, hk2⟩ := h.hdom id b q; rw [hid] at hk2; cases hk2
  have hb' : ∀ i b, β i = some b → upd β id ⟨bi.b, rows'.length, bi.c, es⟩ i = some b := by
    intro i b q
    by_cases e : i = id
    · subst e; rw [hβn] at q; cases q
    · rw [upd_other _ _ e]; exact q
  have hSm : ∀ b o, S b o → S b o ∧ w'.cell? ⟨b, o, none⟩ = w.cell? ⟨b, o, none⟩ := by
    intro b o q
    refine ⟨q, ?_⟩
    by_cases e : b = bi.b
    · subst e; exact absurd q (b10 rfl o)
    · exact World.cell?_of_block (hot b e)
  have hv : ∀ {v x}, VR β S w v x → VR (upd β id ⟨bi.b, rows'.length, bi.c, es⟩) S w' v x := fun q => q.mono hb' hSm
  have hblk : ∀ i kk, i ≠ id → upd (upd blk id0 .gone) id (.arr e es rows' true) i = some kk → (i = id0 ∧ kk = .gone) ∨ (i ≠ id0 ∧ blk i = some kk) := by
    intro i kk hi q
    rw [upd_other _ _ hi] at q
    by_cases e2 : i = id0
    · subst e2; rw [upd_same] at q; exact .inl ⟨rfl, (Option.some.inj q).symm⟩
    · rw [upd_other _ _ e2] at q; exact .inr ⟨e2, q⟩
  refine ⟨⟨?_, ?_, ?_, h.hold, h.hnew, ?_, ?_⟩, hv⟩
  · intro i kk q
    by_cases ei : i = id
    · subst ei
      rw [upd_same] at q
      obtain rfl := Option.some.inj q
      exact ⟨_, upd_same _ _ _, ⟨rfl, rfl, cs', hcs, hc, b7, hcz, hrows (fun q => q.mono (fun _ _ q => q) hSm), fun _ => b10 rfl, (fun q => by cases q), fun _ q => by cases q⟩, fun _ => hge rfl⟩
    · rcases hblk i kk ei q with ⟨rfl, rfl⟩ | ⟨e2, q⟩
      · exact ⟨bi, hb' _ _ hbi, trivial, fun q => by cases q⟩
      · obtain ⟨b2, h1, h2, h3⟩ := h.hblk i kk q
        have hneb : kk.live = true → b2.b ≠ bi.b := fun hl2 => h.hinj i id0 b2 bi kk _ e2 q hl2 hk rfl h1 hbi
        exact ⟨b2, hb' _ _ h1, h2.ext hb' hSm (fun hl2 => hot _ (hneb hl2)) (fun _ o q2 => q2), h3⟩
  · intro i b q
    by_cases ei : i = id
    · subst ei; exact ⟨_, upd_same _ _ _⟩
    · rw [upd_other _ _ ei] at q
      by_cases e2 : i = id0
      · subst e2; exact ⟨_, by rw [upd_other _ _ ei, upd_same]⟩
      · obtain ⟨k2, hk2⟩ := h.hdom i b q
        exact ⟨k2, by rw [upd_other _ _ ei, upd_other _ _ e2]; exact hk2⟩
  · have one : ∀ j bj kj, j ≠ id → upd (upd blk id0 .gone) id (.arr e es rows' true) j = some kj → kj.live = true → upd β id ⟨bi.b, rows'.length, bi.c, es⟩ j = some bj → bj.b ≠ bi.b := by
      intro j bj kj hj q2 l2 p2
      rw [upd_other _ _ hj] at p2
      rcases hblk j kj hj q2 with ⟨rfl, rfl⟩ | ⟨e2, q2⟩
      · cases l2
      · exact h.hinj j id0 bj bi kj _ e2 q2 l2 hk rfl p2 hbi
    intro i j b1 b2 k1 k2 hne2 q1 l1 q2 l2 p1 p2
    by_cases ei : i = id
    · subst ei
      rw [upd_same] at p1
      obtain rfl := Option.some.inj p1
      exact fun q => one j b2 k2 (fun e => hne2 e.symm) q2 l2 p2 q.symm
    · by_cases ej : j = id
      · subst ej
        rw [upd_same] at p2
        obtain rfl := Option.some.inj p2
        exact one i b1 k1 ei q1 l1 p1
      · rw [upd_other _ _ ei] at p1
        rw [upd_other _ _ ej] at p2
        rcases hblk i k1 ei q1 with ⟨rfl, rfl⟩ | ⟨e2, q1⟩
        · cases l1
        · rcases hblk j k2 ej q2 with ⟨rfl, rfl⟩ | ⟨e3, q2⟩
          · cases l2
          · exact h.hinj i j b1 b2 k1 k2 hne2 q1 l1 q2 l2 p1 p2
  · intro b o q
    rw [hsz]
    exact h.hlt b o q
  · refine ⟨hos.trans h.hbelow.os, htp.trans h.hbelow.tape, hout.trans h.hbelow.output, by rw [hsz]; exact h.hbelow.size, fun b hb => ?_⟩
    rw [hot b (fun e => hge rfl (e ▸ hb))]
    exact h.hbelow.block b hb

section
variable {P : Program} {ty : Ty} {w0 : B0} {nt : Nat} {s : AS} {d : Option Nat} {t : TypeId} {pos : String} {af : Array Edge} {g : Option (Nat × Bool)}

theorem ok_appendW (hty : TyOK P ty) {u e : Nat} {ui ei : TI} {x y : Operand} {q : AV} {id0 es es2 : Nat} {rows rows2 : List (List AV)} (id : Nat) (hui : ty u = some ui) (hd1 : ui.desc = .slice e) (hei : ty e = some ei)
    (hid : s.blk id = none) (hx : evO s x = some (.arr id0)) (hk : s.blk id0 = some (.arr e es rows true)) (hes : Nat.beq es ei.size = true) (hy : evO s y = some q) (hq : srcRows s.blk q = some (es2, rows2)) (hes2 : Nat.beq es2 ei.size = true)
    (hne : rows2 ≠ []) (hb : (rows.length + rows2.length) * ei.bytes ≤ 140737488355328) (hb0 : Nat.blt 0 ei.bytes = true) (hd : dOK nt d = true) :
    OkOp P w0 nt ⟨d, .call { callee := .builtin .append, args := #[x, y], argTypes := #[u, u] }, t, pos, af, g⟩ s (((s.setB id0 .gone).setB id (.arr e es (rows ++ rows2) true)).put d (.arr id)) := by
  intro β S a w next Q hs hn
  have hb0 := blt_lt hb0
  obtain rfl := Nat.eq_of_beq_eq_true hes2
  obtain rfl := Nat.eq_of_beq_eq_true hes
  obtain ⟨_, _, _, hU⟩ := hty.get hui
  obtain ⟨ci, dd, z, hE⟩ := hty.get hei
  have h1 := evO_ok hs hx
  have h2 := evO_ok hs hy
  obtain ⟨b2, o2, c2, e2, hsrc⟩ := src_ok hs.hh h2 hq hne
  obtain ⟨hn1, hn2⟩ := cellsAt_src (w := w) (b := b2) (o := o2) (n := rows2.length) (fun i hi j hj => by obtain ⟨u, q1, q2, _⟩ := (hsrc i hi).2 j hj; exact ⟨u, q1, q2⟩)
  have hlen : 0 < rows2.length := List.length_pos_iff.2 hne
  have hsmall : rows.length + rows2.length ≤ 140737488355328 := by
    have : (rows.length + rows2.length) * 1 ≤ (rows.length + rows2.length) * ei.bytes := Nat.mul_le_mul_left _ hb0
    omega
  have hl2 : (cellsAt w b2 o2 (rows2.length * ei.size)).length = rows2.length * ci.size := by rw [cellsAt_length, hE.size]
  generalize e1 : a.eval x = cx at h1
  cases h1
  rename_i bi hbi
  have hidne : id ≠ id0 := fun q => by rw [q, hk] at hid; cases hid
  obtain ⟨bi2, q1, hbr, hge⟩ := hs.hh.hblk id0 _ hk
  rw [hbi] at q1
  obtain rfl := Option.some.inj q1
  obtain ⟨b3, b4, cs, b5, b6, b7, b8, b9, b10, b11⟩ := hbr
  have hrows1 : ∀ i, i < rows.length → (rows.getD i []).length = ei.size ∧ ∀ j, j < ei.size → VR nb S w (cs.getD (i * ei.size + j) undef) ((rows.getD i []).getD j .any) ∧ (cs.getD (i * ei.size + j) undef).oneCell' = true :=
    fun i hi => ⟨(b9 i hi).1, fun j hj => (b9 i hi).2 j (by rw [(b9 i hi).1]; exact hj)⟩
  have hrows2 := src_cells (S := S) (w := w) (b := b2) (o := o2) (es := ei.size) (rows := rows2) (fun i hi => ⟨(hsrc i hi).1, fun j hj => (hsrc i hi).2 j hj⟩)
  have hfin : ∀ v' w', (Builtin.append_ #[u, u] t #[a.eval x, a.eval y]).run P w = .ok v' w' → next (a.put d v') w' → (Oper.wp P ⟨d, .call { callee := .builtin .append, args := #[x, y], argTypes := #[u, u] }, t, pos, af, g⟩ a w next Q) := by
    intro v' w' hr hnx
    unfold Oper.wp execOp
    simp [resolve, invoke, builtin, hr]
    exact hnx
  rw [e1, e2] at hfin
  have hpl : (cs.toList.take (rows.length * ei.size)).length = rows.length * ei.size := by
    have hz : cs.toList.length = bi.c * ei.size := by simp [b8]
    have := Nat.mul_le_mul_right ei.size b6
    rw [b4] at this
    rw [List.length_take, hz]
    omega
  have hpg : ∀ m, m < rows.length * ei.size → (cs.toList.take (rows.length * ei.size)).getD m undef = cs.getD m undef := by
    intro m hm
    rw [← getD_toList]
    simp only [List.getD_eq_getElem?_getD, List.getElem?_take, if_pos hm]
  have hrowsP : ∀ i, i < rows.length → (rows.getD i []).length = ei.size ∧ ∀ j, j < ei.size → VR nb S w ((cs.toList.take (rows.length * ei.size)).getD (i * ei.size + j) undef) ((rows.getD i []).getD j .any) ∧ ((cs.toList.take (rows.length * ei.size)).getD (i * ei.size + j) undef).oneCell' = true := by
    intro i hi
    refine ⟨(hrows1 i hi).1, fun j hj => ?_⟩
    rw [hpg _ (mul_lt_of hi hj)]
    exact (hrows1 i hi).2 j hj
  by_cases hroom : bi.n + rows2.length ≤ bi.c
  · have hfit : bi.n * ci.size + (cellsAt w b2 o2 (rows2.length * ei.size)).length ≤ cs.size := by
      rw [hl2, b8, hE.size, ← Nat.add_mul]; exact Nat.mul_le_mul_right _ hroom
    have hr := run_append_room (P := P) w u t e ci (hU.slice hd1) hE.info bi.b bi.n bi.c cs b5 ⟨b2, o2, none⟩ rows2.length c2 (cellsAt w b2 o2 (rows2.length * ei.size)) hl2 hn1 hn2 hroom hfit
    refine hfin _ _ hr ?_
    rw [b4, hE.size]
    rw [b4, hE.size] at hfit
    rw [b4] at hroom
    have hsz' : ((cs.toList.take (rows.length * ei.size) ++ cellsAt w b2 o2 (rows2.length * ei.size) ++ cs.toList.drop (rows.length * ei.size + (cellsAt w b2 o2 (rows2.length * ei.size)).length)).toArray).size = bi.c * ei.size := by
      simp only [List.size_toArray, List.length_append, hpl, List.length_drop, Array.length_toList]
      omega
    obtain ⟨hh2, hv2⟩ := hs.hh.appW (id := id) (rows' := rows ++ rows2) (w' := w.setRow bi.b (cs.toList.take (rows.length * ei.size) ++ cellsAt w b2 o2 (rows2.length * ei.size) ++ cs.toList.drop (rows.length * ei.size + (cellsAt w b2 o2 (rows2.length * ei.size)).length)).toArray)
      hk hbi hid (by simp) (fun b q => setRow_other w _ _ _ q) rfl rfl rfl (setRow_heap w _ cs _ e _ b5) hsz' (by rw [List.length_append]; exact hroom)
      (fun hv => fresh_rows hpl (cellsAt_length _ _ _ _) hrowsP hrows2 hv)
    have hs2 : SR w0 nt (upd β id ⟨bi.b, (rows ++ rows2).length, bi.c, ei.size⟩) S ((s.setB id0 .gone).setB id (.arr e ei.size (rows ++ rows2) true)) a _ :=
      ⟨hh2, fun u y q => hv2 (hs.henv u y q), hs.hsize, hs.hdefers⟩
    have := hs2.put hd (x := .arr id) (.arr id _ (upd_same _ _ _))
    simp only [List.length_append] at this
    exact hn _ _ _ _ this
  · have hread : ∀ i, i < rows.length → ∀ j, j < ei.size → ∃ u, w.cell? ⟨bi.b, 0 + (i * ei.size + j), none⟩ = some u ∧ u.oneCell' = true ∧ VR nb S w u ((rows.getD i []).getD j .any) := by
      intro i hi j hj
      have hlt : i * ei.size + j < cs.size := by
        rw [b8]; exact Nat.lt_of_lt_of_le (mul_lt_of hi hj) (Nat.mul_le_mul_right _ (by omega))
      obtain ⟨r1, r2⟩ := (hrows1 i hi).2 j hj
      exact ⟨cs.getD (i * ei.size + j) undef, by rw [Nat.zero_add]; simp [World.cell?, b5, Array.getD, hlt], r2, r1⟩
    obtain ⟨ho1, _⟩ := cellsAt_src (w := w) (b := bi.b) (o := 0) (n := rows.length) (fun i hi j hj => by obtain ⟨u, q1, q2, _⟩ := hread i hi j hj; exact ⟨u, q1, q2⟩)
    have ho2 := src_cells (S := S) (w := w) (b := bi.b) (o := 0) (es := ei.size) (rows := rows) (fun i hi => ⟨(hrows1 i hi).1, fun j hj => hread i hi j hj⟩)
    have hr := run_append_grow (P := P) w u t e ci z (hU.slice hd1) hE.info hE.zero ⟨bi.b, 0, none⟩ bi.n bi.c (cellsAt w bi.b 0 (rows.length * ei.size)) (by rw [cellsAt_length, hE.size, b4]) ho1
      ⟨b2, o2, none⟩ rows2.length c2 (cellsAt w b2 o2 (rows2.length * ei.size)) hl2 hn1 (by omega) (by omega) (growslice_fits (by omega) (by rw [hE.bytes, b4]; omega))
    refine hfin _ _ hr ?_
    rw [b4]
    generalize hcap : grownCap w (rows.length + rows2.length) bi.c e = cap
    have hc1 : rows.length + rows2.length ≤ cap := hcap ▸ grownCap_ge w _ _ e
    have hc2 : cap ≤ maxLen := hcap ▸ grownCap_le_maxLen w _ _ _ (by simp only [maxLen]; omega)
    generalize hw' : w.drew.alloc (.cells ((cellsAt w bi.b 0 (rows.length * ei.size)).toArray ++ (cellsAt w b2 o2 (rows2.length * ei.size)).toArray ++ Builtin.zeroCells z.cells (cap - (rows.length + rows2.length))) e) = w'
    have hB : Below w.heap.size w w' := by rw [← hw']; exact (Below.refl _ _).drew.alloc (Nat.le_refl _) _
    have hw'sz : w'.heap.size = w.heap.size + 1 := by rw [← hw']; simp
    have hheap : w'.heap[w.heap.size]? = some (.cells (cellsAt w bi.b 0 (rows.length * ei.size) ++ cellsAt w b2 o2 (rows2.length * ei.size) ++ (Builtin.zeroCells z.cells (cap - (rows.length + rows2.length))).toList).toArray e (0, 0)) := by
      rw [← hw', show w.heap.size = w.drew.heap.size from rfl, heap_alloc_new]
      congr 2
      apply Array.ext'
      simp
    have ht := hs.hh.turn (k' := .gone) (S' := S) hk rfl hbi (fun b o => ⟨.inl, fun q => q.elim (fun q => q) (fun q => q.2)⟩) (fun _ => trivial)
    have hid2 : upd s.blk id0 .gone id = none := by rw [upd_other _ _ hidne]; exact hid
    have hn2 := ht.1.new hB hid2 (k := .arr e ei.size (rows ++ rows2) true) (bi := ⟨w.heap.size, (rows ++ rows2).length, cap, ei.size⟩) (S' := S)
      (fun b o => ⟨.inl, fun q => q.elim (fun q => q) (fun q => q.2.2)⟩) (Nat.le_refl _)
      ⟨rfl, rfl, _, hheap, by simp only [List.length_append]; exact hc1, hc2, by
        simp only [List.size_toArray, List.length_append, cellsAt_length, Array.length_toList, size_zeroCells, hE.zsize]
        rw [← Nat.add_mul, ← Nat.add_mul]
        congr 1
        omega, fresh_rows (cellsAt_length _ _ _ _) (cellsAt_length _ _ _ _) ho2 hrows2 (fun q => q.mono (fun _ _ q => q) (fun b o q2 => ⟨q2, cell_lt hB (hs.hh.hlt b o q2)⟩)),
        (fun _ o q => absurd (hs.hh.hlt _ _ q) (Nat.lt_irrefl _)), (fun q => by cases q), fun _ q => by cases q⟩
    have hs2 : SR w0 nt (upd β id ⟨w.heap.size, (rows ++ rows2).length, cap, ei.size⟩) S ((s.setB id0 .gone).setB id (.arr e ei.size (rows ++ rows2) true)) a w' :=
      ⟨hn2.1, fun u y q => hn2.2 (ht.2 (hs.henv u y q)), hs.hsize, hs.hdefers⟩
    have := hs2.put hd (x := .arr id) (.arr id _ (upd_same _ _ _))
    simp only [List.length_append] at this
    exact hn _ _ _ _ this

/-- Onto an array of one's own that nobody has seen. -/
theorem m_appW (hty : TyOK P ty) {u e es b : Nat} {x y : Operand} {q : AV} {id0 es0 es2 : Nat} {rows rows2 : List (List AV)} (id : Nat) (he : elTI ty u = some (e, es, b)) (hid : (s.blk id).isNone = true) (hx : evO s x = some (.arr id0))
    (hk : s.blk id0 = some (.arr e es0 rows true)) (hes : Nat.beq es0 es = true) (hy : evO s y = some q) (hq : srcRows s.blk q = some (es2, rows2)) (hes2 : Nat.beq es2 es = true)
    (hne : rows2 ≠ []) (hn : rows.length + rows2.length ≤ 4194304) (hb : Nat.ble b 65536 = true) (hb0 : Nat.blt 0 b = true) (hd : dOK nt d = true) :
    MStep P w0 nt ⟨d, .call { callee := .builtin .append, args := #[x, y], argTypes := #[u, u] }, t, pos, af, g⟩ s (.arr id) [(id0, .gone), (id, .arr e es0 (rows ++ rows2) true)] := by
  intro t2 hle hfr
  obtain ⟨ui, ei, h1, h2, h3, rfl, rfl⟩ := elTI_ok he
  exact ok_appendW hty id h1 h2 h3 (hfr (_, _) (List.mem_cons_of_mem _ (List.mem_singleton.2 rfl)) (Option.isNone_iff_eq_none.1 hid)) (evO_mono hle hx) (hle.2 _ _ hk) hes (evO_mono hle hy) (srcRows_mono hle hq) hes2 hne (small_mul hn hb) hb0 hd

/-- .. and frozen at once. -/
theorem m_appWz (hty : TyOK P ty) {u e es b : Nat} {x y : Operand} {q : AV} {id0 es0 es2 : Nat} {rows rows2 : List (List AV)} (id : Nat) (he : elTI ty u = some (e, es, b)) (hid : (s.blk id).isNone = true) (hx : evO s x = some (.arr id0))
    (hk : s.blk id0 = some (.arr e es0 rows true)) (hes : Nat.beq es0 es = true) (hy : evO s y = some q) (hq : srcRows s.blk q = some (es2, rows2)) (hes2 : Nat.beq es2 es = true)
    (hne : rows2 ≠ []) (hn : rows.length + rows2.length ≤ 4194304) (hb : Nat.ble b 65536 = true) (hb0 : Nat.blt 0 b = true) (hd : dOK nt d = true) :
    MStep P w0 nt ⟨d, .call { callee := .builtin .append, args := #[x, y], argTypes := #[u, u] }, t, pos, af, g⟩ s (.arr id) [(id0, .gone), (id, .arr e es0 (rows ++ rows2) false)] := by
  have h := m_appW (P := P) (w0 := w0) (t := t) (pos := pos) (af := af) (g := g) hty id he hid hx hk hes hy hq hes2 hne hn hb hb0 hd
  intro t2 hle hfr
  refine (h t2 hle (fun p hp q => ?_)).less ?_
  · rcases List.mem_cons.1 hp with rfl | hp
    · exact hfr (id0, .gone) List.mem_cons_self q
    · obtain rfl := List.mem_singleton.1 hp
      exact hfr (id, .arr e es0 (rows ++ rows2) false) (List.mem_cons_of_mem _ (List.mem_singleton.2 rfl)) q
  · have e1 : (t2.eff d (.arr id) [(id0, .gone), (id, .arr e es0 (rows ++ rows2) true)]).blk id = some (.arr e es0 (rows ++ rows2) true) := upd_same _ _ _
    refine (less_freeze id e1).trans (fun w0 nt β S a w hs => ⟨β, S, ?_⟩)
    have e2 : (t2.eff d (.arr id) [(id0, .gone), (id, .arr e es0 (rows ++ rows2) true)]).setB id (.arr e es0 (rows ++ rows2) false) = t2.eff d (.arr id) [(id0, .gone), (id, .arr e es0 (rows ++ rows2) false)] := by
      simp only [AS.setB, AS.eff, AS.put, setBs, upd_upd]
    rwa [e2] at hs

/-- The first rows of an array of one's own that nobody has seen. -/
theorem m_sliceW (hty : TyOK P ty) {u : TypeId} {x : Operand} {hi : Option Operand} {id0 e es : Nat} {rows : List (List AV)} (id k : Nat) (hid : (s.blk id).isNone = true)
    (hx : evO s x = some (.arr id0)) (hk : s.blk id0 = some (.arr e es rows true)) (hq : elOK ty u es = true) (h2 : BndV s hi rows.length k) (hh : k ≤ rows.length) (hd : dOK nt d = true) :
    MStep P w0 nt ⟨d, .slice u x none hi none, t, pos, af, g⟩ s (.arr id) [(id0, .gone), (id, .arr e es (rows.take k) true)] := by
  intro t2 hle hfr
  obtain ⟨ui, e', ei, k1, k2, k3, k4⟩ := elOK_ok hq
  intro β S a w next Q hs hn
  have hes := Nat.eq_of_beq_eq_true k4
  have hx1 := evO_ok hs (evO_mono hle hx)
  obtain ⟨_, _, _, hU⟩ := hty.get k1
  obtain ⟨ci, _, _, hE⟩ := hty.get k3
  have hk2 := hle.2 _ _ hk
  have hid2 : t2.blk id = none := hfr (_, _) (List.mem_cons_of_mem _ (List.mem_singleton.2 rfl)) (Option.isNone_iff_eq_none.1 hid)
  generalize e1 : a.eval x = cx at hx1
  cases hx1
  rename_i bi hbi
  obtain ⟨bi2, q1, hbr, hge⟩ := hs.hh.hblk id0 _ hk2
  rw [hbi] at q1
  obtain rfl := Option.some.inj q1
  obtain ⟨b3, b4, cs, b5, b6, b7, b8, b9, b10, b11⟩ := hbr
  have hb := run_bounds (P := P) (lo := none) (l := 0) hs rfl (h2.mono hle) (Nat.zero_le _) hh (by rw [← b4]; exact b6)
  have hr : (execOp a.eval ⟨d, .slice u x none hi none, t, pos, af, g⟩).run P w = .ok (.value (.slice (some ⟨bi.b, 0, none⟩) k bi.c)) w := by
    rw [← b4] at hb
    simp only [Option.map_none] at hb
    simp [execOp, e1, Instr.sliceAt, Instr.slice, run_underlying (hU.slice k2), hb, sizeOf, typeInfo, hE.info]
    intro q
    simp [Addr.add]
  unfold Oper.wp
  rw [hr]
  obtain ⟨hh2, hv2⟩ := hs.hh.appW (id := id) (rows' := rows.take k) (w' := w) hk2 hbi hid2 rfl (fun _ _ => rfl) rfl rfl rfl b5 b8 (by rw [List.length_take]; omega) (fun _ i hi => by
    have hi2 : i < rows.length := by rw [List.length_take] at hi; omega
    have hg : (rows.take k).getD i [] = rows.getD i [] := by
      simp only [List.getD_eq_getElem?_getD, List.getElem?_take]
      rw [if_pos (by rw [List.length_take] at hi; omega)]
    rw [hg]
    exact b9 i hi2)
  have hs2 : SR w0 nt (upd β id ⟨bi.b, (rows.take k).length, bi.c, es⟩) S ((t2.setB id0 .gone).setB id (.arr e es (rows.take k) true)) a w :=
    ⟨hh2, fun u y q => hv2 (hs.henv u y q), hs.hsize, hs.hdefers⟩
  have := hs2.put hd (x := .arr id) (.arr id _ (upd_same _ _ _))
  simp only [List.length_take, Nat.min_eq_left hh] at this
  exact hn _ _ _ _ this

/-! what of a value is told without any cell -/
def hideS : AV → AV
  | .int k n => .int k n
  | .bool b => .bool b
  | .str s => .str s
  | _ => .any
def hideA : AV → AV
  | .agg cs => .agg (cs.map hideS)
  | x => hideS x
def hideV : AV → AV
  | .tup vs => .tup (vs.map hideA)
  | x => hideA x
theorem hideS_ok {β β' : Bt} {S S' : St} {w w' : World} {v : Value} {x : AV} (h : VR β S w v x) : VR β' S' w' v (hideS x) := by
  cases h <;> first | exact .any _ | exact .int _ _ | exact .bool _ | exact .str _
theorem getD_mapA (f : AV → AV) (l : List AV) {j : Nat} (hj : j < l.length) : (l.map f).getD j .any = f (l.getD j .any) := by
  simp [List.getD_eq_getElem?_getD, hj]
theorem hideA_ok {β β' : Bt} {S S' : St} {w w' : World} {v : Value} {x : AV} (h : VR β S w v x) : VR β' S' w' v (hideA x) := by
  by_cases e : ∃ cs, x = .agg cs
  · obtain ⟨cs, rfl⟩ := e
    cases h with
    | agg c _ h1 h3 h4 =>
      exact .agg c _ (by simpa using h1) (fun j hj => by rw [getD_mapA _ _ (by simpa using hj)]; exact hideS_ok (h3 j (by simpa using hj))) (fun j hj => h4 j (by simpa using hj))
  · have : hideA x = hideS x := by cases x <;> first | rfl | exact absurd ⟨_, rfl⟩ e
    rw [this]; exact hideS_ok h
theorem rv1_hide {S' S2 : St} {w w' : World} {β2 : Bt} {v : Value} {b : Nat} {x : AV} (h : RV1 S' w w' v b x) : VR β2 S2 w' v (hideA x) := by
  by_cases e : ∃ e es rows wr, x = .own e es rows wr
  · obtain ⟨e, es, rows, wr, rfl⟩ := e
    exact .any _
  · have h' : VR nb S' w' v x := by cases x <;> first | exact h | exact absurd ⟨_, _, _, _, rfl⟩ e
    exact hideA_ok h'
theorem rv_hide {S' S2 : St} {w w' : World} {β2 : Bt} {v : Value} {x : AV} (h : RV S' w w' v x) : VR β2 S2 w' v (hideV x) := by
  by_cases e : ∃ xs, x = .tup xs
  · obtain ⟨xs, rfl⟩ := e
    obtain ⟨cs, bs, rfl, h1, h2, _⟩ := h
    exact .tup cs _ (by simpa using h1) (fun j hj => by rw [getD_mapA _ _ (by simpa using hj)]; exact rv1_hide (h2 j (by simpa using hj)))
  · have h' : ∃ b, RV1 S' w w' v b x := by cases x <;> first | exact h | exact absurd ⟨_, rfl⟩ e
    have e2 : hideV x = hideA x := by cases x <;> first | rfl | exact absurd ⟨_, rfl⟩ e
    obtain ⟨b, h'⟩ := h'
    rw [e2]; exact rv1_hide h'

/-- A call to which an array is lent: what comes back is told without any cell. -/
theorem ok_lent {f id0 e es : Nat} {rows : List (List AV)} {wr : Bool} {as : Array Operand} {ts : Array TypeId} {xs : List AV} {res : AV} (hk : s.blk id0 = some (.arr e es rows wr)) (ha : evArgs (s.setB id0 (.arr e es rows false)) as.toList = some xs) (hc : FC P f xs res) (hd : dOK nt d = true) :
    OkOp P w0 nt ⟨d, .call { callee := .value (.func f), args := as, argTypes := ts }, t, pos, af, g⟩ s (s.put d (hideV res)) := by
  intro β S a w next Q hs hn
  obtain ⟨fn, hf, hbody, hname⟩ := hc.fn
  obtain ⟨bi, hbi, _⟩ := hs.hh.hblk id0 _ hk
  obtain ⟨S1, hf1, hv1, _⟩ := hs.hh.freeze hk hbi
  have hs1 : SR w0 nt β S1 (s.setB id0 (.arr e es rows false)) a w := ⟨hf1, fun u z q => hv1 (hs.henv u z q), hs.hsize, hs.hdefers⟩
  obtain ⟨e1, e2⟩ := evArgs_ok hs1 ha
  have hr : (execOp a.eval ⟨d, .call { callee := .value (.func f), args := as, argTypes := ts }, t, pos, af, g⟩).run P w = .ok (.enter f (as.map a.eval)) w := by
    have hcf : (callFunc f (as.map a.eval)).run P w = .ok (.enter f (as.map a.eval)) w := by
      unfold callFunc
      rw [Sem.run_bind, run_program, Result.andThen_ok]
      simp only [hf, hname, hbody, Bool.false_eq_true, if_false, Sem.run_pure]
    simp [execOp, resolve, Act.eval, Deferred.ofValue, invoke, hcf]
  unfold Oper.wp
  rw [hr]
  simp only [Oper.upon]
  refine (hc.pc w S1 (as.map a.eval) hs1.hh.hlt (by simpa using e1) (fun j hj => by
    have := e2 j hj
    rw [← getD_toList, Array.toList_map]; exact this)).mono ?_
  rintro e w' ⟨v, S', rfl, hB, h1, h2, h3, hv⟩
  obtain ⟨q1, q2⟩ := hs.hh.extS (S' := S) hB (fun b o q => q) (fun b o q _ => q) (fun b o q => Nat.lt_of_lt_of_le (hs.hh.hlt b o q) hB.size)
  have hs2 : SR w0 nt β S s a w' := ⟨q1, fun u z q => q2 (hs.henv u z q), hs.hsize, hs.hdefers⟩
  exact hn _ _ _ _ (hs2.put hd (rv_hide hv))

theorem le_setB {s t : AS} (h : s.le t) (id : Nat) (k : AB) : (s.setB id k).le (t.setB id k) := by
  refine ⟨h.1, fun i k' q => ?_⟩
  by_cases e : i = id
  · subst e
    rw [show (s.setB i k).blk i = some k from upd_same _ _ _] at q
    rw [show (t.setB i k).blk i = some k from upd_same _ _ _]; exact q
  · rw [show (s.setB id k).blk i = s.blk i from upd_other _ _ e] at q
    rw [show (t.setB id k).blk i = t.blk i from upd_other _ _ e]; exact h.2 i k' q

theorem m_lent {f id0 e es : Nat} {rows : List (List AV)} {wr : Bool} {as : Array Operand} {ts : Array TypeId} {xs : List AV} {res y : AV} (hk : s.blk id0 = some (.arr e es rows wr)) (ha : evArgs (s.setB id0 (.arr e es rows false)) as.toList = some xs) (hc : FC P f xs res)
    (hy : hideV res = y) (hd : dOK nt d = true) : MStep P w0 nt ⟨d, .call { callee := .value (.func f), args := as, argTypes := ts }, t, pos, af, g⟩ s y [] := by
  subst hy
  exact fun t2 hle _ => ok_lent (hle.2 _ _ hk) (evArgs_mono (le_setB hle _ _) ha) hc hd

end
end Go.Aw
