/-
  Elements, appends, the greater of two, a field of a value: as effects.
-/
import Derived.Test.YtpnjflimilamdaaGreatAw16
namespace Go.Aw
open Go.RowKit

section
variable {P : Program} {ty : Ty} {w0 : B0} {nt : Nat} {s s' : AS} {ops : Array Oper} {l : List Oper} {o : Oper} {K : AS → Prop} {C : Exit → AS → Prop} {d : Option Nat} {t : TypeId} {pos : String} {af : Array Edge} {g : Option (Nat × Bool)}

/-- Is 'u' a slice type of elements of so many cells (and their type 'e', their bytes)? -/
def elOK (ty : Ty) (u es : Nat) : Bool := match ty u with
  | some ui => match ui.desc with
    | .slice e => match ty e with
      | some ei => Nat.beq es ei.size
      | none => false
    | _ => false
  | none => false

theorem elOK_ok {u es : Nat} (h : elOK ty u es = true) : ∃ ui e ei, ty u = some ui ∧ ui.desc = .slice e ∧ ty e = some ei ∧ Nat.beq es ei.size = true := by
  unfold elOK at h
  split at h
  · rename_i ui h1
    split at h
    · rename_i e h2
      split at h
      · rename_i ei h3
        exact ⟨ui, e, ei, h1, h2, h3, h⟩
      · cases h
    · cases h
  · cases h

theorem m_idxL (hty : TyOK P ty) {u : Nat} {x y : Operand} {es : Nat} {rows : List (List AV)} {row : List AV} {full : Bool} {k : IntKind} {i : Int} (hx : evO s x = some (.lst es rows full)) (hy : evO s y = some (.int k i)) (hq : elOK ty u es = true)
    (h0 : 0 ≤ i) (hr : rows[i.toNat]? = some row) (hd : dOK nt d = true) : MStep P w0 nt ⟨d, .indexAddr u x y, t, pos, af, g⟩ s (.eptr row 0) [] := by
  intro t2 hle _
  obtain ⟨ui, e, ei, h1, h2, h3, h4⟩ := elOK_ok hq
  exact ok_indexL hty h1 h2 h3 (evO_mono hle hx) (evO_mono hle hy) h4 h0 hr hd

theorem m_idxN (hty : TyOK P ty) {u : Nat} {x y : Operand} {es : Nat} {rows : List (List AV)} {row : List AV} {full : Bool} {k : IntKind} {i : Nat} (hx : evO s x = some (.lst es rows full)) (hy : evO s y = some (.int k (i : Int))) (hq : elOK ty u es = true)
    (hr : rows[i]? = some row) (hd : dOK nt d = true) : MStep P w0 nt ⟨d, .indexAddr u x y, t, pos, af, g⟩ s (.eptr row 0) [] := m_idxL hty hx hy hq (Int.natCast_nonneg _) hr hd

def arrEs (blk : Bk) (id : Nat) : Option Nat := match blk id with
  | some (.ar _ _ es _ _) => some es
  | some (.ro _ es _) => some es
  | _ => none

theorem m_idxA (hty : TyOK P ty) {u : Nat} {x y : Operand} {id es n : Nat} {k : IntKind} {i : Int} (hx : evO s x = some (.arr id)) (hy : evO s y = some (.int k i)) (he : arrEs s.blk id = some es) (hq : elOK ty u es = true)
    (hn : lenV s.blk (.arr id) = some n) (h0 : 0 ≤ i) (h1 : i < n) (hd : dOK nt d = true) : MStep P w0 nt ⟨d, .indexAddr u x y, t, pos, af, g⟩ s (.aptr id i.toNat 0) [] := by
  intro t2 hle _
  obtain ⟨ui, e, ei, g1, g2, g3, g4⟩ := elOK_ok hq
  refine ok_indexA hty g1 g2 g3 (evO_mono hle hx) (evO_mono hle hy) ?_ (lenV_mono hle hn) h0 h1 hd
  unfold arrEs at he
  split at he
  · rename_i hk; rw [hle.2 _ _ hk]; obtain rfl := Option.some.inj he; exact g4
  · rename_i hk; rw [hle.2 _ _ hk]; obtain rfl := Option.some.inj he; exact g4
  · cases he

/-- Element type, its cells, its bytes, of a slice type. -/
def elTI (ty : Ty) (u : Nat) : Option (Nat × Nat × Nat) := match ty u with
  | some ui => match ui.desc with
    | .slice e => match ty e with
      | some ei => some (e, ei.size, ei.bytes)
      | none => none
    | _ => none
  | none => none

theorem elTI_ok {u e es by' : Nat} (h : elTI ty u = some (e, es, by')) : ∃ ui ei, ty u = some ui ∧ ui.desc = .slice e ∧ ty e = some ei ∧ ei.size = es ∧ ei.bytes = by' := by
  unfold elTI at h
  split at h
  · rename_i ui h1
    split at h
    · rename_i e h2
      split at h
      · rename_i ei h3
        simp only [Option.some.injEq, Prod.mk.injEq] at h
        obtain ⟨rfl, rfl, rfl⟩ := h
        exact ⟨ui, ei, h1, h2, h3, rfl, rfl⟩
      · cases h
    · cases h
  · cases h

theorem small_mul {n b : Nat} (hn : n ≤ 4194304) (hb : Nat.ble b 65536 = true) : n * b ≤ 140737488355328 := by
  have hb := Nat.le_of_ble_eq_true hb
  have := Nat.mul_le_mul hn hb
  omega

/-- Nothing is put behind. -/
theorem m_app0 (hty : TyOK P ty) {u : Nat} {x y : Operand} {p q : AV} {r1 r2 : Nat × List (List AV)} {q2 : Nat × Nat × Nat} (he : elTI ty u = some q2) (hx : evO s x = some p) (hp : srcRows s.blk p = some r1)
    (hy : evO s y = some q) (hq : srcRows s.blk q = some r2) (hz : r2.2 = []) (hd : dOK nt d = true) :
    MStep P w0 nt ⟨d, .call { callee := .builtin .append, args := #[x, y], argTypes := #[u, u] }, t, pos, af, g⟩ s p [] := by
  intro t2 hle _
  obtain ⟨e, es, b⟩ := q2
  obtain ⟨ui, ei, h1, h2, h3, _, _⟩ := elTI_ok he
  obtain ⟨a1, a2⟩ := r1
  obtain ⟨b1, b2⟩ := r2
  simp only at hz
  subst hz
  exact ok_append0 hty h1 h2 h3 (evO_mono hle hx) (srcRows_mono hle hp) (evO_mono hle hy) (srcRows_mono hle hq) hd

/-- Onto rows that end where their array ends. -/
theorem m_appF (hty : TyOK P ty) {u e es b : Nat} {x y : Operand} {q : AV} {es0 es2 : Nat} {rows rows2 : List (List AV)} (id : Nat) (he : elTI ty u = some (e, es, b)) (hid : (s.blk id).isNone = true) (hx : evO s x = some (.lst es0 rows true))
    (hes : (rows.isEmpty || Nat.beq es0 es) = true) (hy : evO s y = some q) (hq : srcRows s.blk q = some (es2, rows2)) (hes2 : Nat.beq es2 es = true)
    (hne : rows2 ≠ []) (hn : rows.length + rows2.length ≤ 4194304) (hb : Nat.ble b 65536 = true) (hb0 : Nat.blt 0 b = true) (hd : dOK nt d = true) :
    MStep P w0 nt ⟨d, .call { callee := .builtin .append, args := #[x, y], argTypes := #[u, u] }, t, pos, af, g⟩ s (.arr id) [(id, .arr e es (rows ++ rows2) true)] := by
  intro t2 hle hfr
  obtain ⟨ui, ei, h1, h2, h3, rfl, rfl⟩ := elTI_ok he
  exact ok_appendF hty id h1 h2 h3 (hfr (_, _) (List.mem_singleton.2 rfl) (Option.isNone_iff_eq_none.1 hid)) (evO_mono hle hx) hes (evO_mono hle hy) (srcRows_mono hle hq) hes2 hne (small_mul hn hb) hb0 hd

/-- Onto an array of one's own. -/
theorem m_appA (hty : TyOK P ty) {u e es b : Nat} {x y : Operand} {q : AV} {id0 es0 es2 : Nat} {rows rows2 : List (List AV)} {wr : Bool} (id : Nat) (he : elTI ty u = some (e, es, b)) (hid : (s.blk id).isNone = true) (hx : evO s x = some (.arr id0))
    (hk : s.blk id0 = some (.arr e es0 rows wr)) (hes : Nat.beq es0 es = true) (hy : evO s y = some q) (hq : srcRows s.blk q = some (es2, rows2)) (hes2 : Nat.beq es2 es = true)
    (hne : rows2 ≠ []) (hn : rows.length + rows2.length ≤ 4194304) (hb : Nat.ble b 65536 = true) (hb0 : Nat.blt 0 b = true) (hd : dOK nt d = true) :
    MStep P w0 nt ⟨d, .call { callee := .builtin .append, args := #[x, y], argTypes := #[u, u] }, t, pos, af, g⟩ s (.arr id) [(id0, .ro e es0 rows), (id, .arr e es0 (rows ++ rows2) false)] := by
  intro t2 hle hfr
  obtain ⟨ui, ei, h1, h2, h3, rfl, rfl⟩ := elTI_ok he
  exact ok_appendA hty id h1 h2 h3 (hfr (_, _) (List.mem_cons_of_mem _ (List.mem_singleton.2 rfl)) (Option.isNone_iff_eq_none.1 hid)) (evO_mono hle hx) (hle.2 _ _ hk) hes (evO_mono hle hy) (srcRows_mono hle hq) hes2 hne (small_mul hn hb) hb0 hd

theorem ok_max {x y : Operand} {ts : Array TypeId} {k : IntKind} {a b : Int} (hx : evO s x = some (.int k a)) (hy : evO s y = some (.int k b)) (hd : dOK nt d = true) :
    OkOp P w0 nt ⟨d, .call { callee := .builtin .max, args := #[x, y], argTypes := ts }, t, pos, af, g⟩ s (s.put d (.int k (if b > a then b else a))) :=
  ok_value hd fun β S ac w hs => by
    have h1 := evO_ok hs hx
    have h2 := evO_ok hs hy
    generalize e1 : ac.eval x = cv at h1
    generalize e2 : ac.eval y = dv at h2
    cases h1
    cases h2
    exact ⟨_, by simp [execOp, resolve, invoke, builtin, Builtin.max_, Builtin.max2, e1, e2], .int _ _⟩

theorem m_max {x y : Operand} {ts : Array TypeId} {k : IntKind} {a b : Int} (hx : evO s x = some (.int k a)) (hy : evO s y = some (.int k b)) (hd : dOK nt d = true) :
    MStep P w0 nt ⟨d, .call { callee := .builtin .max, args := #[x, y], argTypes := ts }, t, pos, af, g⟩ s (.int k (if b > a then b else a)) [] :=
  fun _ hle _ => ok_max (evO_mono hle hx) (evO_mono hle hy) hd

theorem ok_min {x y : Operand} {ts : Array TypeId} {k : IntKind} {a b : Int} (hx : evO s x = some (.int k a)) (hy : evO s y = some (.int k b)) (hd : dOK nt d = true) :
    OkOp P w0 nt ⟨d, .call { callee := .builtin .min, args := #[x, y], argTypes := ts }, t, pos, af, g⟩ s (s.put d (.int k (if b < a then b else a))) :=
  ok_value hd fun β S ac w hs => by
    have h1 := evO_ok hs hx
    have h2 := evO_ok hs hy
    generalize e1 : ac.eval x = cv at h1
    generalize e2 : ac.eval y = dv at h2
    cases h1
    cases h2
    exact ⟨_, by simp [execOp, resolve, invoke, builtin, Builtin.min_, Builtin.min2, e1, e2], .int _ _⟩

theorem m_min {x y : Operand} {ts : Array TypeId} {k : IntKind} {a b : Int} (hx : evO s x = some (.int k a)) (hy : evO s y = some (.int k b)) (hd : dOK nt d = true) :
    MStep P w0 nt ⟨d, .call { callee := .builtin .min, args := #[x, y], argTypes := ts }, t, pos, af, g⟩ s (.int k (if b < a then b else a)) [] :=
  fun _ hle _ => ok_min (evO_mono hle hx) (evO_mono hle hy) hd

/-- Is it the type of words? -/
def isBoolT (P : Program) (u : Nat) : Bool := match P.underlying u with
  | some .bool => true
  | _ => false

/-- Two words are compared: the walk parts. -/
theorem WL_eqB {xt yt : TypeId} {x y : Operand} {a b : Bool} (_hty : TyOK P ty) (hu : isBoolT P xt = true) (hx : evO s x = some (.bool a)) (hy : evO s y = some (.bool b)) (hd : dOK nt d = true)
    (h1 : a = b → WL P w0 nt ops l (s.put d (.bool true)) K) (h2 : ¬ a = b → WL P w0 nt ops l (s.put d (.bool false)) K) : WL P w0 nt ops (⟨d, .binOp .eql xt x y yt, t, pos, af, none⟩ :: l) s K := by
  have hu' : P.underlying xt = some .bool := by
    unfold isBoolT at hu
    split at hu
    · assumption
    · cases hu
  refine WL_cons rfl (ok_eqB hu' hx hy hd) ?_
  by_cases h : a = b
  · subst h
    rw [beq_self_eq_true]; exact h1 rfl
  · have : (a == b) = false := by simpa using h
    rw [this]; exact h2 h

theorem ok_neB {xt yt : TypeId} {x y : Operand} {a b : Bool} (hu : P.underlying xt = some .bool) (hx : evO s x = some (.bool a)) (hy : evO s y = some (.bool b)) (hd : dOK nt d = true) :
    OkOp P w0 nt ⟨d, .binOp .neq xt x y yt, t, pos, af, g⟩ s (s.put d (.bool (a != b))) :=
  ok_value hd fun β S ac w hs => by
    have h1 := evO_ok hs hx
    have h2 := evO_ok hs hy
    generalize e1 : ac.eval x = cv at h1
    generalize e2 : ac.eval y = dv at h2
    cases h1
    cases h2
    refine ⟨.bool (a != b), ?_, .bool _⟩
    have hg : (eqGuard .neq xt x y (.bool a) (.bool b)).run P w = .ok () w := by simp [eqGuard]
    have he : ∀ k, (Op.equalIn (k + 1) xt (.bool a) (.bool b)).run P w = .ok (a == b) w := by intro k; simp [Op.equalIn, run_underlying hu]
    have he2 : (Op.equal xt (.bool a) (.bool b)).run P w = .ok (a == b) w := he 9999
    simp [execOp, e1, e2, hg, binOp, he2, bne]

theorem isBoolT_ok {u : TypeId} (hu : isBoolT P u = true) : P.underlying u = some .bool := by
  unfold isBoolT at hu
  split at hu
  · assumption
  · cases hu
theorem m_neB {xt yt : TypeId} {x y : Operand} {a b : Bool} (hu : isBoolT P xt = true) (hx : evO s x = some (.bool a)) (hy : evO s y = some (.bool b)) (hd : dOK nt d = true) : MStep P w0 nt ⟨d, .binOp .neq xt x y yt, t, pos, af, g⟩ s (.bool (a != b)) [] :=
  fun _ hle _ => ok_neB (isBoolT_ok hu) (evO_mono hle hx) (evO_mono hle hy) hd
theorem m_eqB {xt yt : TypeId} {x y : Operand} {a b : Bool} (hu : isBoolT P xt = true) (hx : evO s x = some (.bool a)) (hy : evO s y = some (.bool b)) (hd : dOK nt d = true) : MStep P w0 nt ⟨d, .binOp .eql xt x y yt, t, pos, af, g⟩ s (.bool (a == b)) [] :=
  fun _ hle _ => ok_eqB (isBoolT_ok hu) (evO_mono hle hx) (evO_mono hle hy) hd

/-- A field of a value. -/
def fieldV (ty : Ty) (st f : Nat) : AV → Option AV
  | .agg cs => (ty st).bind fun si => match si.desc with
    | .struct fs => (fs[f]?).bind fun q => (ty q.2).bind fun fi => match fi.desc.isAgg with
      | true => match Nat.ble (q.1 + fi.size) cs.length with
        | true => (forceL ((cs.drop q.1).take fi.size)).bind fun r => some (.agg r)
        | false => none
      | false => cs[q.1]?
    | _ => none
  | _ => none

theorem ok_field (hty : TyOK P ty) {st f : Nat} {x : Operand} {p v : AV} (hx : evO s x = some p) (hv : fieldV ty st f p = some v) (hd : dOK nt d = true) :
    OkOp P w0 nt ⟨d, .field st x f, t, pos, af, g⟩ s (s.put d v) :=
  ok_value hd fun β S a w hs => by
    have h1 := evO_ok hs hx
    generalize e1 : a.eval x = cv at h1
    unfold fieldV at hv
    split at hv
    · rename_i cs
      cases h1 with
      | agg c _ h1 h3 h4 =>
        obtain ⟨si, hsi, hv⟩ := Option.bind_eq_some_iff.1 hv
        split at hv
        · rename_i fs hfs
          obtain ⟨⟨off, ft⟩, hf, hv⟩ := Option.bind_eq_some_iff.1 hv
          obtain ⟨fi, hfi, hv⟩ := Option.bind_eq_some_iff.1 hv
          obtain ⟨_, _, _, hI⟩ := hty.get hsi
          obtain ⟨F, hu, hF⟩ := hI.struct hfs
          obtain ⟨ci, _, _, hJ⟩ := hty.get hfi
          have hag := run_isAgg (w := w) hJ
          have hF' : ∃ fd, F[f]? = some fd ∧ fd.offset = off ∧ fd.type = ft := by
            have := hF
            rw [← this] at hf
            simp only [List.getElem?_map, Option.map_eq_some_iff, Prod.mk.injEq] at hf
            obtain ⟨fd, q1, q2, q3⟩ := hf
            exact ⟨fd, by simpa using q1, q2, q3⟩
          obtain ⟨fd, q1, rfl, rfl⟩ := hF'
          split at hv
          · rename_i ha
            rw [ha] at hag
            split at hv
            · rename_i hle
              have hle := Nat.le_of_ble_eq_true hle
              obtain ⟨r, hr, hv⟩ := Option.bind_eq_some_iff.1 hv
              obtain rfl := Option.some.inj hv
              obtain rfl := forceL_eq hr
              refine ⟨.agg (c.extract fd.offset (fd.offset + ci.size)), ?_, ?_⟩
              · simp [execOp, e1, Instr.field, run_underlying hu, q1, part, hag, asAgg, sizeOf, typeInfo, hJ.info]
              · have hcs : ci.size = fi.size := hJ.size
                have hg : ∀ j, j < fi.size → (c.extract fd.offset (fd.offset + ci.size)).getD j undef = c.getD (fd.offset + j) undef := by
                  intro j hj
                  have hlt : fd.offset + j < c.size := by simp only at hle; omega
                  rw [Array.getD_eq_getD_getElem?, Array.getD_eq_getD_getElem?, Array.getElem?_extract_of_lt (by omega), Array.getElem?_eq_getElem hlt]
                refine .agg _ _ (by simp; omega) (fun j hj => ?_) (fun j hj => ?_)
                · obtain ⟨g1, g2⟩ := getD_take_drop cs fd.offset fi.size j hj
                  have : j < fi.size := by simp at hj; omega
                  rw [g1, hg j this]; exact h3 _ g2
                · obtain ⟨g1, g2⟩ := getD_take_drop cs fd.offset fi.size j hj
                  have : j < fi.size := by simp at hj; omega
                  rw [hg j this]; exact h4 _ g2
            · cases hv
          · rename_i ha
            rw [ha] at hag
            have hlt : fd.offset < cs.length := (List.getElem?_eq_some_iff.1 hv).1
            have := h3 fd.offset hlt
            have e3 : cs.getD fd.offset .any = v := by rw [List.getD_eq_getElem?_getD, hv]; rfl
            rw [e3] at this
            refine ⟨c.getD fd.offset undef, ?_, this⟩
            have hlt' : fd.offset < c.size := by omega
            simp [execOp, e1, Instr.field, run_underlying hu, q1, part, hag, asAgg, hlt', Array.getD]
        · cases hv
    · cases hv

theorem m_field (hty : TyOK P ty) {st f : Nat} {x : Operand} {p v : AV} (hx : evO s x = some p) (hv : fieldV ty st f p = some v) (hd : dOK nt d = true) : MStep P w0 nt ⟨d, .field st x f, t, pos, af, g⟩ s v [] :=
  fun _ hle _ => ok_field hty (evO_mono hle hx) hv hd

end
end Go.Aw
