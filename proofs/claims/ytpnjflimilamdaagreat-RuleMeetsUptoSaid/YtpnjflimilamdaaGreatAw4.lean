/-
  More rules: numbers, tests, tuples, structs, new variables, stores, lengths, elements.
-/
import Derived.Test.YtpnjflimilamdaaGreatAw3
namespace Go.Aw
open Go.RowKit

def forceL {α : Type} : List α → Option (List α)
  | [] => some []
  | a :: l => match forceL l with
    | some l' => some (a :: l')
    | none => none

theorem forceL_eq {α : Type} : ∀ {l l' : List α}, forceL l = some l' → l = l'
  | [], l', h => by simpa [forceL] using h
  | a :: l, l', h => by
    unfold forceL at h
    cases e : forceL l with
    | none => rw [e] at h; cases h
    | some m => rw [e] at h; rw [forceL_eq e]; exact Option.some.inj h

/-- The cells of a value that is stored. -/
def cellsV : AV → Option (List AV)
  | .agg cs => forceL cs
  | .tup _ => none
  | .any => none
  | .own .. => none
  | v => some [v]

theorem cellsV_ok {β : Bt} {S : St} {w : World} {v : Value} {x : AV} {cs : List AV} (h : VR β S w v x) (hc : cellsV x = some cs) : v.cells.size = cs.length ∧ CR β S w v.cells 0 cs := by
  have one : ∀ {v : Value} {x : AV}, VR β S w v x → v.cells = #[v] → v.oneCell' = true → cs = [x] → v.cells.size = cs.length ∧ CR β S w v.cells 0 cs := by
    intro v x h e1 e2 e3
    subst e3
    rw [e1]
    refine ⟨rfl, fun j hj => ?_⟩
    obtain rfl : j = 0 := by simpa using hj
    exact ⟨h, e2⟩
  cases h with
  | agg c xs h3 h4 h5 =>
    obtain rfl := forceL_eq hc
    exact ⟨h3, fun j hj => by rw [Nat.zero_add]; exact ⟨h4 j hj, h5 j hj⟩⟩
  | tup => cases hc
  | any => cases hc
  | int k n => exact one (.int k n) rfl rfl (Option.some.inj hc).symm
  | bool b => exact one (.bool b) rfl rfl (Option.some.inj hc).symm
  | str b => exact one (.str b) rfl rfl (Option.some.inj hc).symm
  | nilp => exact one .nilp rfl rfl (Option.some.inj hc).symm
  | nilf => exact one .nilf rfl rfl (Option.some.inj hc).symm
  | fn f fi ca xi xa h1 h2 h3 h4 => exact one (.fn f fi ca xi xa h1 h2 h3 h4) rfl rfl (Option.some.inj hc).symm
  | lst0 es full => exact one (.lst0 es full) rfl rfl (Option.some.inj hc).symm
  | lstZ a es => exact one (.lstZ a es) rfl rfl (Option.some.inj hc).symm
  | lst b o n c es rows full cells h1 h2 h3 h4 h5 h6 => exact one (.lst b o n c es rows full cells h1 h2 h3 h4 h5 h6) rfl rfl (Option.some.inj hc).symm
  | ptr id off bi h => exact one (.ptr id off bi h) rfl rfl (Option.some.inj hc).symm
  | arr id bi h => exact one (.arr id bi h) rfl rfl (Option.some.inj hc).symm
  | aptr id i off bi h => exact one (.aptr id i off bi h) rfl rfl (Option.some.inj hc).symm
  | eptr b o off row cells h5 h6 => exact one (.eptr b o off row cells h5 h6) rfl rfl (Option.some.inj hc).symm

section
variable {P : Program} {ty : Ty} {w0 : B0} {nt : Nat} {s : AS} {d : Option Nat} {t : TypeId} {pos : String} {af : Array Edge} {g : Option (Nat × Bool)}

/-! numbers -/
def binI (op : BinOp) (k : IntKind) (a b : Int) : Option AV := match op with
  | .add => some (.int k (k.wrap (a + b)))
  | .sub => some (.int k (k.wrap (a - b)))
  | .mul => some (.int k (k.wrap (a * b)))
  | .eql => some (.bool (a == b))
  | .neq => some (.bool (a != b))
  | .lss => some (.bool (decide (a < b)))
  | .leq => some (.bool (decide (a ≤ b)))
  | .gtr => some (.bool (decide (b < a)))
  | .geq => some (.bool (decide (b ≤ a)))
  | _ => none

theorem run_binI {op : BinOp} {k : IntKind} {a b : Int} {x : AV} (h : binI op k a b = some x) (xt : TypeId) (w : World) {β : Bt} {S : St} :
    ∃ v, (binOp op xt (.int k a) (.int k b)).run P w = .ok v w ∧ VR β S w v x := by
  cases op <;> simp only [binI] at h <;> first | (cases h; done) | (obtain rfl := Option.some.inj h)
  · exact ⟨_, by simp [binOp, Op.intArith], .int _ _⟩
  · exact ⟨_, by simp [binOp, Op.intArith], .int _ _⟩
  · exact ⟨_, by simp [binOp, Op.intArith], .int _ _⟩
  · exact ⟨_, by simp [binOp, Op.intCmp], .bool _⟩
  · exact ⟨_, by simp [binOp, Op.intCmp], .bool _⟩
  · exact ⟨_, by simp [binOp, Op.intCmp], .bool _⟩
  · exact ⟨_, by simp [binOp, Op.intCmp], .bool _⟩
  · exact ⟨_, by simp [binOp, Op.intCmp], .bool _⟩
  · exact ⟨_, by simp [binOp, Op.intCmp], .bool _⟩

theorem ok_binI {op : BinOp} {xt yt : TypeId} {x y : Operand} {k : IntKind} {a b : Int} {v : AV} (hx : evO s x = some (.int k a)) (hy : evO s y = some (.int k b)) (hv : binI op k a b = some v) (hd : dOK nt d = true) :
    OkOp P w0 nt ⟨d, .binOp op xt x y yt, t, pos, af, g⟩ s (s.put d v) :=
  ok_value hd fun β S ac w hs => by
    have h1 := evO_ok hs hx
    have h2 := evO_ok hs hy
    generalize e1 : ac.eval x = cv at h1
    generalize e2 : ac.eval y = dv at h2
    cases h1
    cases h2
    obtain ⟨v, h3, h4⟩ := run_binI (P := P) hv xt w (β := β) (S := S)
    refine ⟨v, ?_, h4⟩
    have hg : (eqGuard op xt x y (.int k a) (.int k b)).run P w = .ok () w := by
      unfold eqGuard
      cases op <;> simp
    simp [execOp, e1, e2, hg, h3]

/-! tests of bools -/
theorem ok_eqB {xt yt : TypeId} {x y : Operand} {a b : Bool} (hu : P.underlying xt = some .bool) (hx : evO s x = some (.bool a)) (hy : evO s y = some (.bool b)) (hd : dOK nt d = true) :
    OkOp P w0 nt ⟨d, .binOp .eql xt x y yt, t, pos, af, g⟩ s (s.put d (.bool (a == b))) :=
  ok_value hd fun β S ac w hs => by
    have h1 := evO_ok hs hx
    have h2 := evO_ok hs hy
    generalize e1 : ac.eval x = cv at h1
    generalize e2 : ac.eval y = dv at h2
    cases h1
    cases h2
    refine ⟨.bool (a == b), ?_, .bool _⟩
    have hg : (eqGuard .eql xt x y (.bool a) (.bool b)).run P w = .ok () w := by simp [eqGuard]
    have he : ∀ k, (Op.equalIn (k + 1) xt (.bool a) (.bool b)).run P w = .ok (a == b) w := by intro k; simp [Op.equalIn, run_underlying hu]
    have he2 : (Op.equal xt (.bool a) (.bool b)).run P w = .ok (a == b) w := he 9999
    simp [execOp, e1, e2, hg, binOp, he2]

theorem ok_not {xt : TypeId} {x : Operand} {a : Bool} (hx : evO s x = some (.bool a)) (hd : dOK nt d = true) :
    OkOp P w0 nt ⟨d, .unOp .not xt x, t, pos, af, g⟩ s (s.put d (.bool (!a))) :=
  ok_value hd fun β S ac w hs => by
    have h1 := evO_ok hs hx
    generalize e1 : ac.eval x = cv at h1
    cases h1
    exact ⟨.bool (!a), by simp [execOp, e1, Op.unary], .bool _⟩

theorem ok_extract {x : Operand} {vs : List AV} {i : Nat} {v : AV} (hx : evO s x = some (.tup vs)) (hi : vs[i]? = some v) (hd : dOK nt d = true) :
    OkOp P w0 nt ⟨d, .extract x i, t, pos, af, g⟩ s (s.put d v) :=
  ok_value hd fun β S ac w hs => by
    have h1 := evO_ok hs hx
    generalize e1 : ac.eval x = cv at h1
    cases h1
    rename_i cs h2 h3
    have hlt : i < vs.length := (List.getElem?_eq_some_iff.1 hi).1
    refine ⟨cs.getD i undef, ?_, ?_⟩
    · have : i < cs.size := by omega
      simp [execOp, e1, Instr.extract, this, Array.getD]
    · have := h3 i hlt
      rwa [List.getD_eq_getElem?_getD, hi] at this

theorem ok_nilCheck {x : Operand} {p : AV} (hx : evO s x = some p) (hp : (mvP 0 p).isSome = true) (hd : dOK nt d = true) :
    OkOp P w0 nt ⟨d, .nilCheck x, t, pos, af, g⟩ s (s.put d p) :=
  ok_value hd fun β S ac w hs => by
    have h1 := evO_ok hs hx
    obtain ⟨q, hq⟩ := Option.isSome_iff_exists.1 hp
    obtain ⟨b, o, e, _⟩ := mvP_ok h1 hq
    refine ⟨ac.eval x, ?_, h1⟩
    simp [execOp, e]

/-! lengths -/
def lenV (blk : Bk) : AV → Option Nat
  | .lst _ rows _ => some rows.length
  | .str s => some s.size
  | .arr id => match blk id with
    | some (.ar _ _ _ rows _) => some rows.length
    | some (.ro _ _ rows) => some rows.length
    | _ => none
  | _ => none

theorem slice_shape {w : World} {β : Bt} {S : St} {a : Act} (hs : SR w0 nt β S s a w) {v : Value} {x : AV} (hv : VR β S w v x) {n : Nat} (hn : lenV s.blk x = some n) :
    (∃ ad c, v = .slice ad n c) ∨ ∃ b, v = .string b ∧ b.size = n := by
  cases hv <;> simp only [lenV] at hn <;> try cases hn
  · exact .inr ⟨_, rfl, rfl⟩
  · exact .inl ⟨_, _, rfl⟩
  · exact .inl ⟨_, _, rfl⟩
  · rename_i h1 _ _ _ _ _; subst h1; exact .inl ⟨_, _, rfl⟩
  · rename_i id bi hbi
    split at hn
    · rename_i hk
      obtain ⟨bi', h1, h2, _⟩ := hs.hh.hblk id _ hk
      rw [hbi] at h1
      obtain rfl := Option.some.inj h1
      obtain rfl := Option.some.inj hn
      exact .inl ⟨_, _, by rw [h2.2.1]⟩
    · rename_i hk
      obtain ⟨bi', h1, h2, _⟩ := hs.hh.hblk id _ hk
      rw [hbi] at h1
      obtain rfl := Option.some.inj h1
      obtain rfl := Option.some.inj hn
      exact .inl ⟨_, _, by rw [h2.2.1]⟩
    · cases hn

theorem ok_len {u e : TypeId} {x : Operand} {p : AV} {n : Nat} (hu : P.underlying u = some (.slice e)) (hx : evO s x = some p) (hn : lenV s.blk p = some n) (hp : (match p with | .str _ => false | _ => true) = true) (hd : dOK nt d = true) :
    OkOp P w0 nt ⟨d, .call { callee := .builtin .len, args := #[x], argTypes := #[u] }, t, pos, af, g⟩ s (s.put d (.int .i64 n)) :=
  ok_value hd fun β S ac w hs => by
    have h1 := evO_ok hs hx
    rcases slice_shape hs h1 hn with ⟨ad, c, e⟩ | ⟨b, e, _⟩
    · exact ⟨.int .i64 n, by simp [execOp, resolve, invoke, builtin, Builtin.len_, e, run_underlying hu, goInt], .int _ _⟩
    · rw [e] at h1
      cases h1 <;> simp [lenV] at hn hp

/-! a variable of the call's own -/
theorem ok_new {w w' : World} {β : Bt} {S : St} {a : Act} {id : Nat} {k : AB} {x : AV} {v : Value} (hs : SR w0 nt β S s a w) (hB : Below w.heap.size w w') (hid : s.blk id = none) (hd : dOK nt d = true)
    {bi : BI} (hb : w.heap.size ≤ bi.b) (hk : BR (upd β id bi) S w' bi k) (hv : ∀ {β'}, β' id = some bi → VR β' S w' v x) :
    SR w0 nt (upd β id bi) S ((s.setB id k).put d x) (a.put d v) w' := by
  have hn := hs.hh.new hB hid (k := k) (bi := bi) (S' := S) (fun b o => ⟨.inl, fun h => h.elim (fun q => q) (fun q => q.2.2)⟩) hb hk
  have h1 : SR w0 nt (upd β id bi) S (s.setB id k) a w' := ⟨hn.1, fun u y q => hn.2 (hs.henv u y q), hs.hsize, hs.hdefers⟩
  exact h1.put hd (hv (upd_same β id bi))

theorem below_alloc1 (w : World) (o : Obj) : Below w.heap.size w (w.alloc o) := (Below.refl _ _).alloc (Nat.le_refl _) o

theorem ok_box {u : Nat} {x : Operand} {v : AV} (id : Nat) {cs : List AV} (hid : s.blk id = none) (hx : evO s x = some v) (hc : cellsV v = some cs) (hd : dOK nt d = true) :
    OkOp P w0 nt ⟨d, .box u x, t, pos, af, g⟩ s ((s.setB id (.box cs)).put d (.ptr id 0)) := by
  intro β S a w next Q hs hn
  have h1 := evO_ok hs hx
  have h2 : (a.eval x).cells.size = cs.length ∧ CR β S w (a.eval x).cells 0 cs := cellsV_ok h1 hc
  have hr : (execOp a.eval ⟨d, .box u x, t, pos, af, g⟩).run P w = .ok (.value (.pointer (some ⟨w.heap.size, 0, none⟩))) (w.alloc (.cells (a.eval x).cells u)) := by
    simp [execOp, Instr.box, newVar, newRow]
  unfold Oper.wp
  rw [hr]
  have hB := below_alloc1 w (.cells (a.eval x).cells u)
  refine hn _ _ _ _ (ok_new hs hB hid hd (bi := ⟨w.heap.size, 0, 0, 0⟩) (Nat.le_refl _) ⟨(a.eval x).cells, u, heap_alloc_new w _, h2.1, ?_, fun o q => ?_, fun _ q => by cases q⟩ (fun h => .ptr _ _ _ h))
  · refine h2.2.mono (fun i b q => ?_) (fun b o q => ⟨q, cell_lt hB (hs.hh.hlt b o q)⟩)
    by_cases e : i = id
    · subst e
      obtain ⟨k, hk⟩ := hs.hh.hdom i b q
      rw [hid] at hk; cases hk
    · rw [upd_other _ _ e]; exact q
  · exact absurd (hs.hh.hlt _ _ q) (Nat.lt_irrefl _)

theorem ok_alloc (hty : TyOK P ty) {u : Nat} {i : TI} (id : Nat) (hi : ty u = some i) (hid : s.blk id = none) (hd : dOK nt d = true) :
    OkOp P w0 nt ⟨d, .alloc u, t, pos, af, g⟩ s ((s.setB id (.box i.zero)).put d (.ptr id 0)) := by
  intro β S a w next Q hs hn
  obtain ⟨ci, _, z, hI⟩ := hty.get hi
  have hr : (execOp a.eval ⟨d, .alloc u, t, pos, af, g⟩).run P w = .ok (.value (.pointer (some ⟨w.heap.size, 0, none⟩))) (w.alloc (.cells z.cells u)) := by
    simp [execOp, Instr.alloc, newVar, newRow, zeroValue, typeInfo, hI.info, hI.zero]
  unfold Oper.wp
  rw [hr]
  refine hn _ _ _ _ (ok_new hs (below_alloc1 w _) hid hd (bi := ⟨w.heap.size, 0, 0, 0⟩) (Nat.le_refl _) ⟨z.cells, u, heap_alloc_new w _, ?_, fun j hj => ?_, fun o q => ?_, fun _ q => by cases q⟩ (fun h => .ptr _ _ _ h))
  · have := (zerosOK_at (β := β) (S := S) (w := w) hI.zs).1
    simpa using this
  · have := (zerosOK_at (β := upd β id ⟨w.heap.size, 0, 0, 0⟩) (S := S) (w := w.alloc (.cells z.cells u)) hI.zs).2 j hj
    simpa [Array.getD_eq_getD_getElem?, List.getD_eq_getElem?_getD] using this
  · exact absurd (hs.hh.hlt _ _ q) (Nat.lt_irrefl _)

end
end Go.Aw
