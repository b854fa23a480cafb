/-
  Reading: what is handed in as data stands for abstract values.
-/
import Derived.Test.YtpnjflimilamdaaGreatAw21
import Derived.ChangeArms
namespace Go.Aw
open Go.RowKit

/-- A row of cells, told one by one. -/
inductive CV (S : St) (w : World) : List Value → List AV → Prop
  | nil : CV S w [] []
  | cons {c : Value} {x : AV} {cs : List Value} {xs : List AV} (h : VR nb S w c x) (h1 : c.oneCell' = true) (ht : CV S w cs xs) : CV S w (c :: cs) (x :: xs)

theorem CV.append {S : St} {w : World} {a b : List Value} {x y : List AV} (h : CV S w a x) (hb : CV S w b y) : CV S w (a ++ b) (x ++ y) := by
  induction h with
  | nil => exact hb
  | cons h h1 _ ih => exact .cons h h1 ih
theorem CV.len {S : St} {w : World} {a : List Value} {x : List AV} (h : CV S w a x) : a.length = x.length := by
  induction h with
  | nil => rfl
  | cons h h1 _ ih => simp [ih]
theorem CV.get {S : St} {w : World} {a : List Value} {x : List AV} (h : CV S w a x) : ∀ j, j < x.length → VR nb S w (a.getD j undef) (x.getD j .any) ∧ (a.getD j undef).oneCell' = true := by
  induction h with
  | nil => intro j hj; simp at hj
  | cons h h1 _ ih =>
    intro j hj
    cases j with
    | zero => exact ⟨h, h1⟩
    | succ j => exact ih j (by simpa using hj)

/-- A struct out of its cells. -/
theorem CV.agg {S : St} {w : World} {a : List Value} {x : List AV} (h : CV S w a x) : VR nb S w (.agg a.toArray) (.agg x) := by
  refine .agg _ _ (by simpa using h.len) (fun j hj => ?_) (fun j hj => ?_)
  · have := (h.get j hj).1
    simpa [Array.getD_eq_getD_getElem?, List.getD_eq_getElem?_getD] using this
  · have := (h.get j hj).2
    simpa [Array.getD_eq_getD_getElem?, List.getD_eq_getElem?_getD] using this

theorem cell_heap_lt {w : World} {b o : Nat} {v : Value} (h : w.cell? ⟨b, o, none⟩ = some v) : b < w.heap.size := by
  by_cases e : b < w.heap.size
  · exact e
  · have : w.heap[b]? = none := Array.getElem?_eq_none (by omega)
    simp [World.cell?, this] at h

/-- All that was there. -/
def oldS (w : World) : St := fun b _ => b < w.heap.size

section
variable {H : Type} {enc : TypeId × Value → H} {P : Program} {w : World} {fuel : Nat} {t : TypeId} {cs : List Value} {d : DataW H} {ps : List MemPlace}

theorem read_int {k : IntKind} (hu : P.underlying t = some (.int k)) (h : DataW.trod enc P w 0 (fun _ => true) true fuel t cs = some (d, ps)) : ∃ n, cs = [.int k n] ∧ CV (oldS w) w cs [.int k n] ∧ k.has n := by
  cases fuel with
  | zero => simp [DataW.trod] at h
  | succ m =>
    unfold DataW.trod at h
    rw [hu] at h
    split at h <;> simp_all
    refine ⟨.cons (.int _ _) rfl .nil, ?_⟩
    have := h.1.2
    simp only [Lit.wf, Bool.and_eq_true, decide_eq_true_eq] at this
    exact this
theorem read_bool (hu : P.underlying t = some .bool) (h : DataW.trod enc P w 0 (fun _ => true) true fuel t cs = some (d, ps)) : ∃ n, cs = [.bool n] ∧ CV (oldS w) w cs [.bool n] := by
  cases fuel with
  | zero => simp [DataW.trod] at h
  | succ m =>
    unfold DataW.trod at h
    rw [hu] at h
    split at h <;> simp_all
    exact .cons (.bool _) rfl .nil
theorem read_string (hu : P.underlying t = some .string) (h : DataW.trod enc P w 0 (fun _ => true) true fuel t cs = some (d, ps)) : ∃ n : ByteArray, cs = [.string n] ∧ CV (oldS w) w cs [.str n] ∧ n.size ≤ maxLen := by
  cases fuel with
  | zero => simp [DataW.trod] at h
  | succ m =>
    unfold DataW.trod at h
    rw [hu] at h
    split at h <;> simp_all
    exact .cons (.str _) rfl .nil

theorem cells_some {w : World} {a : Addr} {n : Nat} {l : List Value} (h : w.cells? 0 a n = some l) : l.length = n ∧ ∀ j, j < n → w.cell? (a.add j) = some (l.getD j undef) := by
  unfold World.cells? at h
  rw [if_pos (Nat.zero_le _)] at h
  have hl := mapM_some_length h
  refine ⟨by simpa using hl, fun j hj => ?_⟩
  have := mapM_some_get h j j (by simp [hj])
  rw [this, List.getD_eq_getElem?_getD, List.getElem?_eq_getElem (by simp at hl; omega)]
  rfl

theorem pick_list {α : Type} (n : Nat) (p : Nat → α → Prop) (h : ∀ i, i < n → ∃ x, p i x) : ∃ l : List α, l.length = n ∧ ∀ i x, l[i]? = some x → p i x := by
  induction n with
  | zero => exact ⟨[], rfl, fun i x q => by simp at q⟩
  | succ n ih =>
    obtain ⟨l, hl, hp⟩ := ih (fun i hi => h i (by omega))
    obtain ⟨y, hy⟩ := h n (by omega)
    refine ⟨l ++ [y], by simp [hl], fun i x q => ?_⟩
    by_cases e : i < n
    · rw [List.getElem?_append_left (by omega)] at q; exact hp i x q
    · rw [List.getElem?_append_right (by omega)] at q
      have : i = n := by
        have := (List.getElem?_eq_some_iff.1 q).1
        simp at this; omega
      subst this
      simp [hl] at q; subst q; exact hy

theorem sum_le {α β : Type} (f : α → Nat) (g : β → Nat) : ∀ (l : List α) (r : List β), l.length = r.length → (∀ (i : Nat) (a : α) (b : β), l[i]? = some a → r[i]? = some b → f a ≤ g b) → (l.map f).sum ≤ (r.map g).sum
  | [], [], _, _ => by simp
  | a :: l, b :: r, hl, h => by
    have h0 := h 0 a b rfl rfl
    have := sum_le f g l r (by simpa using hl) (fun i x y q1 q2 => h (i + 1) x y (by simpa using q1) (by simpa using q2))
    simp only [List.map_cons, List.sum_cons]; omega
  | [], b :: r, hl, _ => by simp at hl
  | a :: l, [], hl, _ => by simp at hl

theorem read_slice {α : Type} {e : TypeId} {es : Nat} (hu : P.underlying t = some (.slice e)) (hc : P.cellsOf e = es) (hpos : 0 < es) (sz : α → Nat) (row : α → List AV) (bulk : DataW H → Nat)
    (hb : ∀ l r, (l.map bulk).sum ≤ bulk (.slice l r))
    (ih : ∀ (m : Nat) cs d ps, m < fuel → DataW.trod enc P w 0 (fun _ => true) true m e cs = some (d, ps) → ∃ x, CV (oldS w) w cs (row x) ∧ sz x ≤ bulk d)
    (h : DataW.trod enc P w 0 (fun _ => true) true fuel t cs = some (d, ps)) :
    ∃ l : List α, CV (oldS w) w cs [.lst es (l.map row) false] ∧ (l.map sz).sum ≤ bulk d := by
  rcases DataW.trod_slice hu h with ⟨rfl, e1⟩ | ⟨a, len, cap, elems, rest, n, rfl, rfl, e1, _, hle, _, hlen, hel, hre, _⟩
  · exact ⟨[], .cons (.lst0 _ _) rfl .nil, Nat.zero_le _⟩
  · obtain ⟨rfl, rfl⟩ := Prod.mk.inj e1
    subst hc
    obtain ⟨hrl, hre⟩ := hre rfl
    by_cases hcap : cap = 0
    · obtain rfl : len = 0 := by omega
      subst hcap
      exact ⟨[], .cons (.lstZ _ _) rfl .nil, Nat.zero_le _⟩
    · have hspot : a.spot = none := by
        have : ∃ l, w.cells? 0 a (P.cellsOf e) = some l := by
          by_cases hl0 : len = 0
          · have := hre 0 (by omega)
            rw [List.getElem?_eq_getElem (by omega)] at this
            obtain ⟨l, h1, _⟩ := Option.bind_eq_some_iff.1 this
            subst hl0
            exact ⟨l, by simpa [Addr.add] using h1⟩
          · have := hel 0 (by omega)
            rw [List.getElem?_eq_getElem (by omega)] at this
            obtain ⟨l, h1, _⟩ := Option.bind_eq_some_iff.1 this
            exact ⟨l, by simpa [Addr.add] using h1⟩
        obtain ⟨l, hk⟩ := this
        have := (cells_some hk).2 0 hpos
        simpa [Addr.add] using World.cell?_spot this
      obtain ⟨b, o, sp⟩ := a
      obtain rfl : sp = none := hspot
      have hx : ∀ i, i < len → ∃ p : α × List Value, CV (oldS w) w p.2 (row p.1) ∧ p.2.length = P.cellsOf e ∧ (∀ j, j < P.cellsOf e → w.cell? ⟨b, o + i * P.cellsOf e + j, none⟩ = some (p.2.getD j undef)) ∧ ∀ y, elems[i]? = some y → sz p.1 ≤ bulk y.1 := by
        intro i hi
        have := hel i hi
        rw [List.getElem?_eq_getElem (by omega)] at this
        obtain ⟨l, h1, h2⟩ := Option.bind_eq_some_iff.1 this
        obtain ⟨hl1, hl2⟩ := cells_some h1
        obtain ⟨x, hx1, hx2⟩ := ih n l elems[i].1 elems[i].2 (by omega) h2
        refine ⟨(x, l), hx1, hl1, fun j hj => ?_, fun y hy => ?_⟩
        · have := hl2 j hj
          rwa [Go.WideShapes.add_plain, Go.WideShapes.add_plain] at this
        · rw [List.getElem?_eq_getElem (by omega)] at hy
          obtain rfl := Option.some.inj hy
          exact hx2
      obtain ⟨l, hll, hlp⟩ := pick_list len _ hx
      have hgi : ∀ i, i < len → ∃ p, l[i]? = some p := fun i hi => ⟨l[i]'(by omega), List.getElem?_eq_getElem (by omega)⟩
      refine ⟨l.map (·.1), .cons ?_ rfl .nil, ?_⟩
      · refine .lst b o len cap (P.cellsOf e) _ false (fun i j => ((l[i]?.map (·.2)).getD []).getD j undef) (by simp [hll]) hle (fun q => by cases q) (fun i hi => ?_) (fun i j hi hj => ?_) (fun i j hi hj => ?_)
        · obtain ⟨p, hp⟩ := hgi i hi
          obtain ⟨q1, q2, _, _⟩ := hlp i p hp
          simp only [List.map_map, List.getD_eq_getElem?_getD, List.getElem?_map, hp, Option.map_some, Function.comp, Option.getD_some]
          rw [← q1.len]; exact q2
        · obtain ⟨p, hp⟩ := hgi i hi
          obtain ⟨q1, q2, q3, _⟩ := hlp i p hp
          have hc := q3 j hj
          simp only [hp, Option.map_some, Option.getD_some]
          exact ⟨cell_heap_lt hc, hc, (q1.get j (by rw [← q1.len]; omega)).2⟩
        · obtain ⟨p, hp⟩ := hgi i hi
          obtain ⟨q1, q2, q3, _⟩ := hlp i p hp
          simp only [List.map_map, List.getD_eq_getElem?_getD, List.getElem?_map, hp, Option.map_some, Function.comp, Option.getD_some]
          have := (q1.get j (by rw [← q1.len]; omega)).1
          simpa only [List.getD_eq_getElem?_getD] using this
      · refine Nat.le_trans ?_ (hb _ _)
        rw [List.map_map]
        have := sum_le (fun p : α × List Value => sz p.1) (fun y : DataW H × List MemPlace => bulk y.1) l elems (by omega) (fun i p y hp hy => (hlp i p hp).2.2.2 y hy)
        rw [List.map_map]; exact this

end
end Go.Aw
