/-
  A small program logic over the kit's wp: abstract values, what they stand for in a world, and that this lasts.
-/
import Derived.WalkKit
import Derived.Below
import Derived.KernelRfl
namespace Go.Aw
open Go.RowKit

/-- Abstract values: a slice is told by its rows (each row an element's cells). -/
inductive AV where
  | int (k : IntKind) (n : Int)
  | bool (b : Bool)
  | str (s : ByteArray)
  | any
  | nilp
  | nilf
  | fn (f : Fn) (first caps : List AV)
  | lst (es : Nat) (rows : List (List AV)) (full : Bool)
  | agg (cs : List AV)
  | tup (vs : List AV)
  | ptr (id off : Nat)
  | arr (id : Nat)
  | aptr (id i off : Nat)
  | eptr (row : List AV) (off : Nat)
  | own (e es : Nat) (rows : List (List AV)) (wr : Bool)
  deriving Inhabited

/-- Where an own block lies; of an array: how long the slice is, how long it may be, how great an element is. -/
structure BI where
  b : Nat
  n : Nat
  c : Nat
  es : Nat

abbrev Bt := Nat → Option BI
abbrev St := Nat → Nat → Prop

/-- No own blocks. -/
def nb : Bt := fun _ => none

inductive VRi (S : St) (w : World) : Bt → Value → AV → Prop
  | any {β : Bt} (v) : VRi S w β v .any
  | int {β : Bt} (k n) : VRi S w β (.int k n) (.int k n)
  | bool {β : Bt} (b) : VRi S w β (.bool b) (.bool b)
  | str {β : Bt} (s) : VRi S w β (.string s) (.str s)
  | nilp {β : Bt} : VRi S w β (.pointer none) .nilp
  | nilf {β : Bt} : VRi S w β .nilFunc .nilf
  | fn {β : Bt} (f : Fn) (fi ca : Array Value) (xi xa : List AV) (h1 : fi.size = xi.length) (h2 : ca.size = xa.length)
      (h3 : ∀ j, j < xi.length → VRi S w β (fi.getD j undef) (xi.getD j .any))
      (h4 : ∀ j, j < xa.length → VRi S w β (ca.getD j undef) (xa.getD j .any)) : VRi S w β (.func f fi ca) (.fn f xi xa)
  | lst0 {β : Bt} (es : Nat) (full : Bool) : VRi S w β (.slice none 0 0) (.lst es [] full)
  | lstZ {β : Bt} (a : Addr) (es : Nat) : VRi S w β (.slice (some a) 0 0) (.lst es [] false)
  | lst {β : Bt} (b o n c es : Nat) (rows : List (List AV)) (full : Bool) (cells : Nat → Nat → Value) (h1 : rows.length = n) (h2 : n ≤ c) (h3 : full = true → c = n)
      (h4 : ∀ i, i < n → (rows.getD i []).length = es)
      (h5 : ∀ i j, i < n → j < es → S b (o + i * es + j) ∧ w.cell? ⟨b, o + i * es + j, none⟩ = some (cells i j) ∧ (cells i j).oneCell' = true)
      (h6 : ∀ i j, i < n → j < es → VRi S w nb (cells i j) ((rows.getD i []).getD j .any)) : VRi S w β (.slice (some ⟨b, o, none⟩) n c) (.lst es rows full)
  | agg {β : Bt} (cs : Array Value) (xs : List AV) (h1 : cs.size = xs.length) (h3 : ∀ j, j < xs.length → VRi S w β (cs.getD j undef) (xs.getD j .any)) (h4 : ∀ j, j < xs.length → (cs.getD j undef).oneCell' = true) : VRi S w β (.agg cs) (.agg xs)
  | tup {β : Bt} (cs : Array Value) (xs : List AV) (h1 : cs.size = xs.length) (h3 : ∀ j, j < xs.length → VRi S w β (cs.getD j undef) (xs.getD j .any)) : VRi S w β (.tuple cs) (.tup xs)
  | ptr {β : Bt} (id off : Nat) (bi : BI) (h : β id = some bi) : VRi S w β (.pointer (some ⟨bi.b, off, none⟩)) (.ptr id off)
  | arr {β : Bt} (id : Nat) (bi : BI) (h : β id = some bi) : VRi S w β (.slice (some ⟨bi.b, 0, none⟩) bi.n bi.c) (.arr id)
  | aptr {β : Bt} (id i off : Nat) (bi : BI) (h : β id = some bi) : VRi S w β (.pointer (some ⟨bi.b, i * bi.es + off, none⟩)) (.aptr id i off)
  | eptr {β : Bt} (b o off : Nat) (row : List AV) (cells : Nat → Value)
      (h5 : ∀ j, j < row.length → S b (o + j) ∧ w.cell? ⟨b, o + j, none⟩ = some (cells j) ∧ (cells j).oneCell' = true)
      (h6 : ∀ j, j < row.length → VRi S w nb (cells j) (row.getD j .any)) : VRi S w β (.pointer (some ⟨b, o + off, none⟩)) (.eptr row off)

abbrev VR (β : Bt) (S : St) (w : World) (v : Value) (x : AV) : Prop := VRi S w β v x

/-- What stands for something stands for it still, where its cells last and blocks keep their places. -/
theorem VR.mono {β β' : Bt} {S S' : St} {w w' : World} (hb : ∀ id bi, β id = some bi → β' id = some bi)
    (hS : ∀ b o, S b o → S' b o ∧ w'.cell? ⟨b, o, none⟩ = w.cell? ⟨b, o, none⟩) {v : Value} {x : AV} (h : VR β S w v x) : VR β' S' w' v x := by
  induction h generalizing β' with
  | any v => exact .any v
  | int k n => exact .int k n
  | bool b => exact .bool b
  | str s => exact .str s
  | nilp => exact .nilp
  | nilf => exact .nilf
  | fn f fi ca xi xa h1 h2 _ _ i3 i4 => exact .fn f fi ca xi xa h1 h2 (fun j hj => i3 j hj hb) (fun j hj => i4 j hj hb)
  | lst0 es full => exact .lst0 es full
  | lstZ a es => exact .lstZ a es
  | lst b o n c es rows full cells h1 h2 h3 h4 h5 _ i6 =>
    exact .lst b o n c es rows full cells h1 h2 h3 h4 (fun i j hi hj => let ⟨a, q, r⟩ := h5 i j hi hj; ⟨(hS _ _ a).1, (hS _ _ a).2.trans q, r⟩) (fun i j hi hj => i6 i j hi hj (fun _ _ q => by cases q))
  | agg cs xs h1 _ h4 i3 => exact .agg cs xs h1 (fun j hj => i3 j hj hb) h4
  | tup cs xs h1 _ i3 => exact .tup cs xs h1 (fun j hj => i3 j hj hb)
  | ptr id off bi h => exact .ptr id off bi (hb _ _ h)
  | arr id bi h => exact .arr id bi (hb _ _ h)
  | aptr id i off bi h => exact .aptr id i off bi (hb _ _ h)
  | eptr b o off row cells h5 _ i6 => exact .eptr b o off row cells (fun j hj => let ⟨a, q, r⟩ := h5 j hj; ⟨(hS _ _ a).1, (hS _ _ a).2.trans q, r⟩) (fun j hj => i6 j hj (fun _ _ q => by cases q))

theorem VRi.mono {β β' : Bt} {S S' : St} {w w' : World} {v : Value} {x : AV} (h : VRi S w β v x) (hb : ∀ id bi, β id = some bi → β' id = some bi)
    (hS : ∀ b o, S b o → S' b o ∧ w'.cell? ⟨b, o, none⟩ = w.cell? ⟨b, o, none⟩) : VR β' S' w' v x := VR.mono hb hS h

/-- What names no own block stands for the same whatever they are. -/
theorem VR.up {β : Bt} {S : St} {w : World} {v : Value} {x : AV} (h : VR nb S w v x) : VR β S w v x := VR.mono (fun _ _ q => by cases q) (fun _ _ q => ⟨q, rfl⟩) h

def closed0 : AV → Bool
  | .int .. | .bool _ | .str _ | .any | .nilp | .nilf | .lst .. | .eptr .. => true
  | _ => false
def closedS : AV → Bool
  | .fn _ a b => a.all closed0 && b.all closed0
  | x => closed0 x
def closedA : AV → Bool
  | .agg cs => cs.all closedS
  | x => closedS x
def closedV : AV → Bool
  | .tup vs => vs.all closedA
  | x => closedA x

theorem closed0_nb {β : Bt} {S : St} {w : World} {v : Value} {x : AV} (hc : closed0 x = true) (h : VR β S w v x) : VR nb S w v x := by
  cases h <;> simp [closed0] at hc
  · exact .any _
  · exact .int _ _
  · exact .bool _
  · exact .str _
  · exact .nilp
  · exact .nilf
  · exact .lst0 _ _
  · exact .lstZ _ _
  · exact .lst _ _ _ _ _ _ _ _ ‹_› ‹_› ‹_› ‹_› ‹_› ‹_›
  · exact .eptr _ _ _ _ _ ‹_› ‹_›

theorem all_getD {p : AV → Bool} {l : List AV} (h : l.all p = true) {j : Nat} (hj : j < l.length) : p (l.getD j .any) = true := by
  rw [List.all_eq_true] at h
  have : l.getD j .any = l[j] := by simp [List.getD_eq_getElem?_getD, hj]
  rw [this]; exact h _ (List.getElem_mem hj)

theorem closedS_nb {β : Bt} {S : St} {w : World} {v : Value} {x : AV} (hc : closedS x = true) (h : VR β S w v x) : VR nb S w v x := by
  cases h with
  | fn f fi ca xi xa h1 h2 h3 h4 =>
    simp only [closedS, Bool.and_eq_true] at hc
    exact .fn f fi ca xi xa h1 h2 (fun j hj => closed0_nb (all_getD hc.1 hj) (h3 j hj)) (fun j hj => closed0_nb (all_getD hc.2 hj) (h4 j hj))
  | any => exact .any _
  | int => exact .int _ _
  | bool => exact .bool _
  | str => exact .str _
  | nilp => exact .nilp
  | nilf => exact .nilf
  | lst0 => exact .lst0 _ _
  | lstZ => exact .lstZ _ _
  | lst _ _ _ _ _ _ _ _ h1 h2 h3 h4 h5 h6 => exact .lst _ _ _ _ _ _ _ _ h1 h2 h3 h4 h5 h6
  | eptr _ _ _ _ _ h5 h6 => exact .eptr _ _ _ _ _ h5 h6
  | agg => simp [closedS, closed0] at hc
  | tup => simp [closedS, closed0] at hc
  | ptr => simp [closedS, closed0] at hc
  | arr => simp [closedS, closed0] at hc
  | aptr => simp [closedS, closed0] at hc

theorem closedA_nb {β : Bt} {S : St} {w : World} {v : Value} {x : AV} (hc : closedA x = true) (h : VR β S w v x) : VR nb S w v x := by
  by_cases e : ∃ cs, x = .agg cs
  · obtain ⟨cs, rfl⟩ := e
    cases h with
    | agg c xs h1 h3 h4 => exact .agg c cs h1 (fun j hj => closedS_nb (all_getD hc hj) (h3 j hj)) h4
  · exact closedS_nb (by cases x <;> first | exact hc | exact absurd ⟨_, rfl⟩ e) h

theorem closedV_nb {β : Bt} {S : St} {w : World} {v : Value} {x : AV} (hc : closedV x = true) (h : VR β S w v x) : VR nb S w v x := by
  by_cases e : ∃ cs, x = .tup cs
  · obtain ⟨cs, rfl⟩ := e
    cases h with
    | tup c xs h1 h3 => exact .tup c cs h1 (fun j hj => closedA_nb (all_getD hc hj) (h3 j hj))
  · exact closedA_nb (by cases x <;> first | exact hc | exact absurd ⟨_, rfl⟩ e) h

end Go.Aw
