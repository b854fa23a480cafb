/-
  Tests part the walk; guards; what is weakened; slots forgotten.
-/
import Derived.Test.YtpnjflimilamdaaGreatAw14
namespace Go.Aw
open Go.RowKit

section
variable {P : Program} {ty : Ty} {w0 : B0} {nt : Nat} {s s' : AS} {ops : Array Oper} {l : List Oper} {o : Oper} {K : AS → Prop} {C : Exit → AS → Prop} {d : Option Nat} {t : TypeId} {pos : String} {af : Array Edge} {g : Option (Nat × Bool)}

/-! tests part the walk -/
def cmpI (op : BinOp) (a b : Int) : Option Prop := match op with
  | .eql => some (a = b)
  | .neq => some (a ≠ b)
  | .lss => some (a < b)
  | .leq => some (a ≤ b)
  | .gtr => some (b < a)
  | .geq => some (b ≤ a)
  | _ => none

theorem cmp_bin {op : BinOp} {k : IntKind} {a b : Int} {p : Prop} (h : cmpI op a b = some p) : (p → binI op k a b = some (.bool true)) ∧ (¬ p → binI op k a b = some (.bool false)) := by
  cases op <;> simp only [cmpI] at h <;> first | (cases h; done) | (obtain rfl := Option.some.inj h; constructor <;> intro q <;> simp [binI] <;> first | exact q | omega | simpa using q)

theorem WL_cmp {xt yt : TypeId} {op : BinOp} {x y : Operand} {k : IntKind} {a b : Int} {p : Prop} (hx : evO s x = some (.int k a)) (hy : evO s y = some (.int k b)) (hp : cmpI op a b = some p) (hd : dOK nt d = true)
    (h1 : p → WL P w0 nt ops l (s.put d (.bool true)) K) (h2 : ¬ p → WL P w0 nt ops l (s.put d (.bool false)) K) : WL P w0 nt ops (⟨d, .binOp op xt x y yt, t, pos, af, none⟩ :: l) s K := by
  by_cases h : p
  · exact WL_cons rfl (ok_binI hx hy ((cmp_bin hp).1 h) hd) (h1 h)
  · exact WL_cons rfl (ok_binI hx hy ((cmp_bin hp).2 h) hd) (h2 h)

/-- An operation under a guard that holds is as one without. -/
theorem OkOp.guard {g' : Option (Nat × Bool)} {op : Op} (h : OkOp P w0 nt ⟨d, op, t, pos, af, none⟩ s s') : OkOp P w0 nt ⟨d, op, t, pos, af, g'⟩ s s' := h

theorem WL_ung {op : Op} {j u : Nat} {b : Bool} (hj : (ops[j]?).bind (·.dst) = some u) (ht : s.env u = some (.bool b)) (r : WL P w0 nt ops (⟨d, op, t, pos, af, none⟩ :: l) s K) : WL P w0 nt ops (⟨d, op, t, pos, af, some (j, b)⟩ :: l) s K := by
  intro β S a w Q hs hq
  have := r β S a w Q hs hq
  unfold wpList at this ⊢
  rw [if_pos (by simp [Region.wanted])] at this
  rw [if_pos (by simp only [Region.wanted, yield_ok hs hj ht, beq_self_eq_true])]
  exact this

theorem WL_offT {op : Op} {j u : Nat} (hj : (ops[j]?).bind (·.dst) = some u) (ht : s.env u = some (.bool false)) (hd : dOK nt d = true) (r : WL P w0 nt ops l (s.put d (.tup [])) K) : WL P w0 nt ops (⟨d, op, t, pos, af, some (j, true)⟩ :: l) s K :=
  WL_off rfl hj ht rfl hd r
theorem WL_offF {op : Op} {j u : Nat} (hj : (ops[j]?).bind (·.dst) = some u) (ht : s.env u = some (.bool true)) (hd : dOK nt d = true) (r : WL P w0 nt ops l (s.put d (.tup [])) K) : WL P w0 nt ops (⟨d, op, t, pos, af, some (j, false)⟩ :: l) s K :=
  WL_off rfl hj ht rfl hd r

theorem WL_offU {op : Op} {j u : Nat} {b : Bool} (hj : (ops[j]?).bind (·.dst) = some u) (ht : s.env u = some (.tup [])) (hd : dOK nt d = true) (r : WL P w0 nt ops l (s.put d (.tup [])) K) : WL P w0 nt ops (⟨d, op, t, pos, af, some (j, b)⟩ :: l) s K :=
  WL_offN rfl hj ht hd r

/-- A test whose outcome is a word of a bool's: the walk parts. -/
theorem AC_condT {c : Operand} {x y : Code} (hc : evO s c = some (.bool true)) (h : AC P w0 nt x s C) : AC P w0 nt (.cond c x y) s C := AC_cond hc (fun _ => h) (fun q => by cases q)
theorem AC_condF {c : Operand} {x y : Code} (hc : evO s c = some (.bool false)) (h : AC P w0 nt y s C) : AC P w0 nt (.cond c x y) s C := AC_cond hc (fun q => by cases q) (fun _ => h)

/-! weaker values -/
mutual
inductive Wk : AV → AV → Prop
  | refl (x : AV) : Wk x x
  | any (x : AV) : Wk x .any
  | full (es : Nat) (rows : List (List AV)) (f : Bool) : Wk (.lst es rows f) (.lst es rows false)
  | nil (es es' : Nat) (f : Bool) : Wk (.lst es [] f) (.lst es' [] f)
  | nilF (es es' : Nat) (f : Bool) : Wk (.lst es [] f) (.lst es' [] false)
  | rows {es : Nat} {rs rs' : List (List AV)} {f : Bool} (h : Wkr rs rs') : Wk (.lst es rs f) (.lst es rs' f)
  | rowsF {es : Nat} {rs rs' : List (List AV)} {f : Bool} (h : Wkr rs rs') : Wk (.lst es rs f) (.lst es rs' false)
  | agg {xs ys : List AV} (h : Wks xs ys) : Wk (.agg xs) (.agg ys)
  | tup {xs ys : List AV} (h : Wks xs ys) : Wk (.tup xs) (.tup ys)
inductive Wks : List AV → List AV → Prop
  | nil : Wks [] []
  | cons {x y : AV} {xs ys : List AV} (h : Wk x y) (hs : Wks xs ys) : Wks (x :: xs) (y :: ys)
inductive Wkr : List (List AV) → List (List AV) → Prop
  | refl (r : List (List AV)) : Wkr r r
  | nil : Wkr [] []
  | cons {x y : List AV} {xs ys : List (List AV)} (h : Wks x y) (hs : Wkr xs ys) : Wkr (x :: xs) (y :: ys)
end

theorem Wks.refl : ∀ l : List AV, Wks l l
  | [] => .nil
  | x :: l => .cons (.refl x) (Wks.refl l)
theorem Wkr.append {a b : List (List AV)} : ∀ {l : List (List AV)}, Wkr a b → Wkr (l ++ a) (l ++ b)
  | [], h => h
  | x :: _, h => .cons (Wks.refl x) (Wkr.append h)
theorem Wkr.snoc {l : List (List AV)} {x y : List AV} (h : Wks x y) : Wkr (l ++ [x]) (l ++ [y]) := Wkr.append (.cons h .nil)

theorem lst_weak {β : Bt} {S : St} {w : World} {v : Value} {es : Nat} {rows : List (List AV)} {f : Bool} (h : VR β S w v (.lst es rows f)) : VR β S w v (.lst es rows false) := by
  cases h with
  | lst0 => exact .lst0 _ _
  | lstZ => exact .lstZ _ _
  | lst b o n c _ _ _ cells h1 h2 h3 h4 h5 h6 => exact .lst b o n c es rows false cells h1 h2 (fun q => by cases q) h4 h5 h6

theorem nil_weak {β : Bt} {S : St} {w : World} {v : Value} {es es' : Nat} {f : Bool} (h : VR β S w v (.lst es [] f)) : VR β S w v (.lst es' [] f) := by
  cases h with
  | lst0 => exact .lst0 _ _
  | lstZ => exact .lstZ _ _
  | lst b o n c _ _ _ cells h1 h2 h3 h4 h5 h6 =>
    obtain rfl : n = 0 := h1.symm
    exact .lst b o 0 c es' [] f cells rfl h2 h3 (fun i hi => by omega) (fun i j hi => by omega) (fun i j hi => by omega)

theorem rows_weak {β : Bt} {S : St} {w : World} {v : Value} {es : Nat} {rs rs' : List (List AV)} {f : Bool} (hl : rs'.length = rs.length)
    (hr : ∀ i, i < rs.length → (rs'.getD i []).length = (rs.getD i []).length ∧ ∀ (c : Nat → Value), (∀ j, j < (rs.getD i []).length → VR nb S w (c j) ((rs.getD i []).getD j .any)) → ∀ j, j < (rs'.getD i []).length → VR nb S w (c j) ((rs'.getD i []).getD j .any))
    (h : VR β S w v (.lst es rs f)) : VR β S w v (.lst es rs' f) := by
  cases h with
  | lst0 =>
    obtain rfl : rs' = [] := List.length_eq_zero_iff.1 hl
    exact .lst0 _ _
  | lstZ =>
    obtain rfl : rs' = [] := List.length_eq_zero_iff.1 hl
    exact .lstZ _ _
  | lst b o n c _ _ _ cells h1 h2 h3 h4 h5 h6 =>
    refine .lst b o n c es rs' f cells (by omega) h2 h3 (fun i hi => by rw [(hr i (by omega)).1]; exact h4 i hi) h5 (fun i j hi hj => ?_)
    have h4i := h4 i hi
    exact (hr i (by omega)).2 (fun j => cells i j) (fun j hj => h6 i j hi (by omega)) j (by rw [(hr i (by omega)).1]; omega)

mutual
theorem Wk.ok {β : Bt} {S : St} {w : World} {v : Value} {x y : AV} (h : Wk x y) (hv : VR β S w v x) : VR β S w v y := by
  cases h with
  | refl => exact hv
  | any => exact .any _
  | full => exact lst_weak hv
  | nil => exact nil_weak hv
  | nilF => exact lst_weak (nil_weak hv)
  | rows hs => obtain ⟨q1, q2⟩ := Wkr.ok (S := S) (w := w) hs; exact rows_weak q1 q2 hv
  | rowsF hs => obtain ⟨q1, q2⟩ := Wkr.ok (S := S) (w := w) hs; exact lst_weak (rows_weak q1 q2 hv)
  | agg hs =>
    cases hv with
    | agg cs _ h1 h3 h4 =>
      obtain ⟨q1, q2⟩ := Wks.ok hs (cv := fun j => cs.getD j undef) h3
      exact .agg cs _ (by omega) q2 (fun j hj => h4 j (by omega))
  | tup hs =>
    cases hv with
    | tup cs _ h1 h3 =>
      obtain ⟨q1, q2⟩ := Wks.ok hs (cv := fun j => cs.getD j undef) h3
      exact .tup cs _ (by omega) q2
theorem Wks.ok {β : Bt} {S : St} {w : World} {xs ys : List AV} {cv : Nat → Value} (h : Wks xs ys) (hv : ∀ j, j < xs.length → VR β S w (cv j) (xs.getD j .any)) : ys.length = xs.length ∧ ∀ j, j < ys.length → VR β S w (cv j) (ys.getD j .any) := by
  cases h with
  | nil => exact ⟨rfl, fun j hj => by simp at hj⟩
  | cons h hs =>
    obtain ⟨q1, q2⟩ := Wks.ok hs (cv := fun j => cv (j + 1)) (fun j hj => by simpa using hv (j + 1) (by simpa using hj))
    refine ⟨by simp [q1], fun j hj => ?_⟩
    cases j with
    | zero => simpa using Wk.ok h (by simpa using hv 0 (by simp))
    | succ j => simpa using q2 j (by simpa using hj)
theorem Wkr.ok {S : St} {w : World} {rs rs' : List (List AV)} (h : Wkr rs rs') : rs'.length = rs.length ∧ ∀ i, i < rs.length → (rs'.getD i []).length = (rs.getD i []).length ∧
    ∀ (c : Nat → Value), (∀ j, j < (rs.getD i []).length → VR nb S w (c j) ((rs.getD i []).getD j .any)) → ∀ j, j < (rs'.getD i []).length → VR nb S w (c j) ((rs'.getD i []).getD j .any) := by
  cases h with
  | refl => exact ⟨rfl, fun i hi => ⟨rfl, fun c hc => hc⟩⟩
  | nil => exact ⟨rfl, fun i hi => by simp at hi⟩
  | @cons x y xs ys h hs =>
    obtain ⟨q1, q2⟩ := Wkr.ok (S := S) (w := w) hs
    refine ⟨by simp [q1], fun i hi => ?_⟩
    cases i with
    | zero =>
      simp only [List.getD_cons_zero]
      have hlen : y.length = x.length := Wks.len h
      exact ⟨hlen, fun c hc => (Wks.ok h (cv := c) hc).2⟩
    | succ i => simpa using q2 i (by simpa using hi)
theorem Wks.len {xs ys : List AV} (h : Wks xs ys) : ys.length = xs.length := by
  cases h with
  | nil => rfl
  | cons h hs => simp [Wks.len hs]
end

/-- A contract serves what says more than it asks. -/
theorem PC.args {f : Nat} {xs ys : List AV} {res : AV} (h : PC P f ys res) (hw : Wks xs ys) : PC P f xs res := by
  intro w S0 ca h1 h2 h3
  obtain ⟨q1, q2⟩ := hw.ok (cv := fun j => ca.getD j undef) h3
  exact h w S0 ca h1 (by omega) q2

/-! a state that says less -/
def subE (s : AS) : List (Nat × AV) → Prop
  | [] => True
  | (t, v) :: l => (∃ x, s.env t = some x ∧ Wk x v) ∧ subE s l

def envOf : List (Nat × AV) → Nat → Option AV
  | [], _ => none
  | (t, v) :: l, u => match Nat.beq u t with
    | true => some v
    | false => envOf l u

theorem envOf_ok {s : AS} : ∀ {l : List (Nat × AV)}, subE s l → ∀ t v, envOf l t = some v → ∃ x, s.env t = some x ∧ Wk x v
  | [], _, t, v, h => by cases h
  | (u, y) :: l, hl, t, v, h => by
    unfold envOf at h
    split at h
    · rename_i e
      obtain rfl := Option.some.inj h
      rw [Nat.eq_of_beq_eq_true e]; exact hl.1
    · exact envOf_ok hl.2 t v h

/-- Slots are forgotten. -/
theorem less_env {l : List (Nat × AV)} (h : subE s l) : Less s ⟨envOf l, s.blk⟩ := by
  intro w0 nt β S a w hs
  refine ⟨β, S, hs.hh, fun t x hx => ?_, hs.hsize, hs.hdefers⟩
  obtain ⟨y, h1, h2⟩ := envOf_ok h t x hx
  exact h2.ok (hs.henv t y h1)

theorem Less.refl (s : AS) : Less s s := fun _ _ β S _ _ h => ⟨β, S, h⟩
theorem Less.trans {a b c : AS} (h : Less a b) (k : Less b c) : Less a c := fun w0 nt β S ac w q => by
  obtain ⟨β1, S1, q1⟩ := h w0 nt β S ac w q
  exact k w0 nt β1 S1 ac w q1

end
end Go.Aw
