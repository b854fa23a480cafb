/-
  Slices of slices that are read; conversions of integers; the remainder.
-/
import Derived.Test.YtpnjflimilamdaaGreatAw23
namespace Go.Aw
open Go.RowKit

section
variable {P : Program} {w0 : B0} {nt : Nat} {ty : Ty} {s : AS} {d : Option Nat} {t : TypeId} {pos : String} {af : Array Edge} {g : Option (Nat × Bool)}

/-- A bound of a slice expression: none, or a number. -/
def BndV (s : AS) (o : Option Operand) (dflt n : Nat) : Prop := match o with
  | none => n = dflt
  | some x => ∃ k i, evO s x = some (.int k i) ∧ i = (n : Int)
theorem BndV.mono {s t : AS} {o : Option Operand} {df n : Nat} (h : BndV s o df n) (hle : s.le t) : BndV t o df n := by
  cases o with
  | none => exact h
  | some x =>
    obtain ⟨k, i, h1, h2⟩ := h
    exact ⟨k, i, evO_mono hle h1, h2⟩

theorem run_bounds {P : Program} {w : World} {β : Bt} {S : St} {a : Act} (hs : SR w0 nt β S s a w) {lo hi : Option Operand} {len cap l h : Nat} (h1 : BndV s lo 0 l) (h2 : BndV s hi len h) (hlh : l ≤ h) (hh : h ≤ len) (hc : len ≤ cap) :
    (Instr.sliceBounds true len cap (lo.map a.eval) (hi.map a.eval) none).run P w = .ok (l, h, cap) w := by
  have e2 : ∀ (f : Option Value), f = hi.map a.eval → (match f with
    | some v => (Instr.sliceBound v cap .sliceAcap).run P w = .ok h w
    | none => h = len) := by
    intro f hf
    subst hf
    cases hi with
    | none => exact h2
    | some x =>
      obtain ⟨k, i, q1, q2⟩ := h2
      have := evO_ok hs q1
      generalize e : a.eval x = cv at this
      cases this
      subst q2
      have q3 : (h : Int) ≤ cap := by omega
      simp [e, Instr.sliceBound, asIntOf, q3]
  have e1 : ∀ (f : Option Value), f = lo.map a.eval → (match f with
    | some v => (Instr.sliceBound v h .sliceB).run P w = .ok l w
    | none => l = 0) := by
    intro f hf
    subst hf
    cases lo with
    | none => exact h1
    | some x =>
      obtain ⟨k, i, q1, q2⟩ := h1
      have := evO_ok hs q1
      generalize e : a.eval x = cv at this
      cases this
      subst q2
      have q3 : (l : Int) ≤ h := by omega
      simp [e, Instr.sliceBound, asIntOf, q3]
  have f1 := e1 _ rfl
  have f2 := e2 _ rfl
  cases lo with
  | none =>
    cases hi with
    | none => simp only [Option.map_none] at f1 f2; subst f1; subst f2; simp [Instr.sliceBounds]
    | some y => simp only [Option.map_none, Option.map_some] at f1 f2; subst f1; simp [Instr.sliceBounds, f2]
  | some x =>
    cases hi with
    | none => simp only [Option.map_none, Option.map_some] at f1 f2; subst f2; simp [Instr.sliceBounds, f1]
    | some y => simp only [Option.map_some] at f1 f2; simp [Instr.sliceBounds, f1, f2]

theorem ok_sliceL (hty : TyOK P ty) {u e : TypeId} {ui ei : TI} {x : Operand} {lo hi : Option Operand} {es l h : Nat} {rows : List (List AV)} {full : Bool} (hui : ty u = some ui) (hd1 : ui.desc = .slice e) (hei : ty e = some ei)
    (hx : evO s x = some (.lst es rows full)) (hes : Nat.beq es ei.size = true) (h1 : BndV s lo 0 l) (h2 : BndV s hi rows.length h) (hlh : l ≤ h) (hh : h ≤ rows.length) (hd : dOK nt d = true) :
    OkOp P w0 nt ⟨d, .slice u x lo hi none, t, pos, af, g⟩ s (s.put d (.lst es ((rows.take h).drop l) (full && hi.isNone))) :=
  ok_value hd fun β S a w hs => by
    have hes := Nat.eq_of_beq_eq_true hes
    have hx1 := evO_ok hs hx
    obtain ⟨_, _, _, hU⟩ := hty.get hui
    obtain ⟨ci, _, _, hE⟩ := hty.get hei
    generalize e1 : a.eval x = cx at hx1
    have huu := hU.slice hd1
    have hrun : ∀ (ad : Option Addr) (cap : Nat), rows.length ≤ cap → cx = .slice ad rows.length cap →
        execOp a.eval ⟨d, .slice u x lo hi none, t, pos, af, g⟩ = (do pure (.value (← Instr.sliceAt u cx (lo.map a.eval) (hi.map a.eval) none))) ∧
        (Instr.sliceAt u cx (lo.map a.eval) (hi.map a.eval) none).run P w = .ok (.slice (if cap = l then ad else ad.map (·.add (l * es))) (h - l) (cap - l)) w := by
      intro ad cap hc e
      refine ⟨by simp [execOp, e1], ?_⟩
      have hb := run_bounds (P := P) hs h1 h2 hlh hh hc
      subst e
      simp [Instr.sliceAt, Instr.slice, run_underlying huu, hb, sizeOf, typeInfo, hE.info, hE.size, hes]
    cases hx1 with
    | lst0 =>
      obtain ⟨f1, f2⟩ := hrun none 0 (Nat.le_refl _) rfl
      have : h = 0 := by simpa using hh
      subst this
      obtain rfl : l = 0 := by omega
      exact ⟨.slice none 0 0, by rw [f1]; simp [f2], by simpa using VRi.lst0 _ _⟩
    | lstZ ad =>
      obtain ⟨f1, f2⟩ := hrun (some ad) 0 (Nat.le_refl _) rfl
      have : h = 0 := by simpa using hh
      subst this
      obtain rfl : l = 0 := by omega
      exact ⟨.slice (some ad) 0 0, by rw [f1]; simp [f2], by simpa using VRi.lstZ ad _⟩
    | lst b o n c _ _ _ cells q1 q2 q3 q4 q5 q6 =>
      subst q1
      obtain ⟨f1, f2⟩ := hrun (some ⟨b, o, none⟩) c q2 rfl
      refine ⟨_, by rw [f1]; simp [f2]; rfl, ?_⟩
      have hl : ((rows.take h).drop l).length = h - l := by simp; omega
      have hf : (full && hi.isNone) = true → c - l = h - l := by
        intro q
        simp only [Bool.and_eq_true] at q
        have := q3 q.1
        cases hi with
        | none => have : h = rows.length := h2; omega
        | some y => simp at q
      have hg : ∀ i, i < h - l → ((rows.take h).drop l).getD i [] = rows.getD (l + i) [] := by
        intro i hi
        simp only [List.getD_eq_getElem?_getD, List.getElem?_drop, List.getElem?_take]
        rw [if_pos (by omega)]
      by_cases ec : c = l
      · obtain rfl : h = l := by omega
        rw [if_pos ec]
        exact .lst b o _ _ es _ _ (fun _ _ => undef) hl (by omega) hf (fun i hi => by omega) (fun i j hi => by omega) (fun i j hi => by omega)
      · rw [if_neg ec]
        simp only [Go.WideShapes.add_plain]
        refine .lst b (o + l * es) _ _ es _ _ (fun i j => cells (l + i) j) hl (by omega) hf (fun i hi => ?_) (fun i j hi hj => ?_) (fun i j hi hj => ?_)
        · rw [hg i hi]; exact q4 _ (by omega)
        · have := q5 (l + i) j (by omega) hj
          rwa [show o + (l + i) * es + j = o + l * es + i * es + j by rw [Nat.add_mul]; omega] at this
        · rw [hg i hi]; exact q6 _ _ (by omega) hj

theorem m_sliceL (hty : TyOK P ty) {u : TypeId} {x : Operand} {lo hi : Option Operand} {es : Nat} {rows : List (List AV)} {full : Bool} (l h : Nat)
    (hx : evO s x = some (.lst es rows full)) (hq : elOK ty u es = true) (h1 : BndV s lo 0 l) (h2 : BndV s hi rows.length h) (hlh : l ≤ h) (hh : h ≤ rows.length) (hd : dOK nt d = true) :
    MStep P w0 nt ⟨d, .slice u x lo hi none, t, pos, af, g⟩ s (.lst es ((rows.take h).drop l) (full && hi.isNone)) [] := by
  intro t2 hle _
  obtain ⟨ui, e, ei, k1, k2, k3, k4⟩ := elOK_ok hq
  exact ok_sliceL hty k1 k2 k3 (evO_mono hle hx) k4 (h1.mono hle) (h2.mono hle) hlh hh hd

/-- The type's integer kind. -/
def intK (P : Program) (u : TypeId) : Option IntKind := match P.underlying u with
  | some (.int k) => some k
  | _ => none
theorem intK_ok {u : TypeId} {k : IntKind} (h : intK P u = some k) : P.underlying u = some (.int k) := by
  unfold intK at h
  split at h
  · rename_i q; rw [q]; obtain rfl := Option.some.inj h; rfl
  · cases h

theorem m_conv {src dst : TypeId} {x : Operand} {k k' : IntKind} {n : Int} (hx : evO s x = some (.int k n)) (h1 : (intK P src).isSome = true) (h2 : intK P dst = some k') (hd : dOK nt d = true) :
    MStep P w0 nt ⟨d, .convert src dst x, t, pos, af, g⟩ s (.int k' (k'.wrap n)) [] := by
  intro t2 hle _
  refine ok_value hd fun β S a w hs => ?_
  have hx1 := evO_ok hs (evO_mono hle hx)
  generalize e1 : a.eval x = cx at hx1
  cases hx1
  obtain ⟨k0, h1⟩ := Option.isSome_iff_exists.1 h1
  exact ⟨.int k' (k'.wrap n), by simp [execOp, e1, convert, run_underlying (intK_ok h1), run_underlying (intK_ok h2), Conv.intToInt], .int _ _⟩

theorem m_rem {xt yt : TypeId} {x y : Operand} {k : IntKind} {a b : Int} (hx : evO s x = some (.int k a)) (hy : evO s y = some (.int k b)) (hb : b ≠ 0) (hd : dOK nt d = true) :
    MStep P w0 nt ⟨d, .binOp .rem xt x y yt, t, pos, af, g⟩ s (.int k (a.tmod b)) [] := by
  intro t2 hle _
  refine ok_value hd fun β S ac w hs => ?_
  have hx1 := evO_ok hs (evO_mono hle hx)
  have hy1 := evO_ok hs (evO_mono hle hy)
  generalize e1 : ac.eval x = cx at hx1
  generalize e2 : ac.eval y = cy at hy1
  cases hx1
  cases hy1
  have hg : (eqGuard .rem xt x y (.int k a) (.int k b)).run P w = .ok () w := by
    unfold eqGuard
    simp
  exact ⟨.int k (a.tmod b), by simp [execOp, e1, e2, hg, binOp, Op.intDiv, hb], .int _ _⟩

theorem OkOp.less {o : Oper} {s' s'' : AS} (h : OkOp P w0 nt o s s') (hl : Less s' s'') : OkOp P w0 nt o s s'' := fun β S a w next Q hs hn =>
  h β S a w next Q hs fun β' S' a' w' hs' => let ⟨_, _, q⟩ := hl w0 nt β' S' a' w' hs'; hn _ _ a' w' q

theorem upd_upd {α : Type} (f : Nat → Option α) (i : Nat) (a b : α) : upd (upd f i a) i b = upd f i b := by
  funext j
  by_cases e : j = i
  · subst e; rw [upd_same, upd_same]
  · rw [upd_other _ _ e, upd_other _ _ e, upd_other _ _ e]

/-- Onto rows that end where their array ends; the new rows are frozen at once. -/
theorem m_appFz (hty : TyOK P ty) {u e es b : Nat} {x y : Operand} {q : AV} {es0 es2 : Nat} {rows rows2 : List (List AV)} (id : Nat) (he : elTI ty u = some (e, es, b)) (hid : (s.blk id).isNone = true) (hx : evO s x = some (.lst es0 rows true))
    (hes : (rows.isEmpty || Nat.beq es0 es) = true) (hy : evO s y = some q) (hq : srcRows s.blk q = some (es2, rows2)) (hes2 : Nat.beq es2 es = true)
    (hne : rows2 ≠ []) (hn : rows.length + rows2.length ≤ 4194304) (hb : Nat.ble b 65536 = true) (hb0 : Nat.blt 0 b = true) (hd : dOK nt d = true) :
    MStep P w0 nt ⟨d, .call { callee := .builtin .append, args := #[x, y], argTypes := #[u, u] }, t, pos, af, g⟩ s (.arr id) [(id, .arr e es (rows ++ rows2) false)] := by
  have h := m_appF (P := P) (w0 := w0) (t := t) (pos := pos) (af := af) (g := g) hty id he hid hx hes hy hq hes2 hne hn hb hb0 hd
  intro t2 hle hfr
  refine (h t2 hle (fun p hp q => ?_)).less ?_
  · obtain rfl := List.mem_singleton.1 hp
    exact hfr (id, .arr e es (rows ++ rows2) false) (List.mem_singleton.2 rfl) q
  · have e1 : (t2.eff d (.arr id) [(id, .arr e es (rows ++ rows2) true)]).blk id = some (.arr e es (rows ++ rows2) true) := upd_same _ _ _
    have := less_freeze id e1
    refine this.trans (fun w0 nt β S a w hs => ⟨β, S, ?_⟩)
    have e2 : (t2.eff d (.arr id) [(id, .arr e es (rows ++ rows2) true)]).setB id (.arr e es (rows ++ rows2) false) = t2.eff d (.arr id) [(id, .arr e es (rows ++ rows2) false)] := by
      simp only [AS.setB, AS.eff, AS.put, setBs, upd_upd]
    rwa [e2] at hs

/-- A value may be told as it is seen: frozen rows in the place of their array. -/
theorem m_see {o : Oper} {v y : AV} (h : MStep P w0 nt o s v []) (hv : argV s.blk v = some y) : MStep P w0 nt o s y [] := by
  intro t2 hle hfr
  refine (h t2 hle (fun p hp => by cases hp)).less ?_
  intro w0 nt β S a w hs
  have hv2 := argV_mono hle hv
  refine ⟨β, S, hs.hh, fun u x q => ?_, hs.hsize, hs.hdefers⟩
  cases hd : o.dst with
  | none =>
    rw [hd] at q hs
    exact hs.henv u x q
  | some d =>
    rw [hd] at q hs
    by_cases e : u = d
    · subst e
      have q1 : (t2.eff (some u) v []).env u = some v := upd_same _ _ _
      have q2 : (t2.eff (some u) y []).env u = some y := upd_same _ _ _
      rw [q2] at q
      obtain rfl := Option.some.inj q
      exact VR.up (argV_ok hs.hh (hs.henv u v q1) hv2)
    · have q1 : (t2.eff (some d) v []).env u = t2.env u := upd_other _ _ e
      have q2 : (t2.eff (some d) y []).env u = t2.env u := upd_other _ _ e
      rw [q2] at q
      exact hs.henv u x (q1.trans q)

theorem m_bld (hty : TyOK P ty) {u : Nat} {parts : Array (Nat × Operand)} {v y : AV} (hd : dOK nt d = true) (h : stepE ty s ⟨d, .build u parts, t, pos, af, g⟩ = some (v, [])) (hv : argV s.blk v = some y) :
    MStep P w0 nt ⟨d, .build u parts, t, pos, af, g⟩ s y [] := m_see (stepE_ok hty hd h) hv
end
end Go.Aw
