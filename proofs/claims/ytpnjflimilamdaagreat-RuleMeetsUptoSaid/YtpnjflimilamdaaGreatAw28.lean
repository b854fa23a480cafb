/-
  Function values: made, called.
-/
import Derived.Test.YtpnjflimilamdaaGreatAw27
namespace Go.Aw
open Go.RowKit

section
variable {P : Program} {ty : Ty} {w0 : B0} {nt : Nat} {s s' : AS} {ops : Array Oper} {l : List Oper} {K : AS → Prop} {d : Option Nat} {t : TypeId} {pos : String} {af : Array Edge} {g : Option (Nat × Bool)}

theorem m_makeFunc {f : Nat} {fi ca : Array Operand} {xi xa : List AV} (h1 : evArgs s fi.toList = some xi) (h2 : evArgs s ca.toList = some xa) (hd : dOK nt d = true) :
    MStep P w0 nt ⟨d, .makeFunc (.func f) fi ca, t, pos, af, g⟩ s (.fn (.func f) xi xa) [] := by
  intro t2 hle _
  refine ok_value hd fun β S a w hs => ?_
  obtain ⟨q1, q2⟩ := evArgs_ok hs (evArgs_mono hle h1)
  obtain ⟨r1, r2⟩ := evArgs_ok hs (evArgs_mono hle h2)
  refine ⟨.func (.func f) (fi.map a.eval) (ca.map a.eval), ?_, .fn _ _ _ _ _ (by simpa using q1) (by simpa using r1) (fun j hj => ?_) (fun j hj => ?_)⟩
  · simp [execOp, Instr.makeFunc]
  · have := q2 j hj
    rw [← getD_toList, Array.toList_map]; exact VR.up this
  · have := r2 j hj
    rw [← getD_toList, Array.toList_map]; exact VR.up this

theorem getD_app3 {a b c : Array Value} {x y z : List AV} {β : Bt} {S : St} {w : World} (h1 : a.size = x.length) (h2 : b.size = y.length) (h3 : c.size = z.length)
    (k1 : ∀ j, j < x.length → VR β S w (a.getD j undef) (x.getD j .any)) (k2 : ∀ j, j < y.length → VR β S w (b.getD j undef) (y.getD j .any)) (k3 : ∀ j, j < z.length → VR β S w (c.getD j undef) (z.getD j .any)) :
    (a ++ b ++ c).size = (x ++ y ++ z).length ∧ ∀ j, j < (x ++ y ++ z).length → VR β S w ((a ++ b ++ c).getD j undef) ((x ++ y ++ z).getD j .any) := by
  refine ⟨by simp [h1, h2, h3], fun j hj => ?_⟩
  simp only [List.length_append] at hj
  rw [Array.getD_eq_getD_getElem?, List.getD_eq_getElem?_getD]
  by_cases e1 : j < x.length
  · have := k1 j e1
    rw [Array.getD_eq_getD_getElem?, List.getD_eq_getElem?_getD] at this
    rw [Array.getElem?_append_left (by simp; omega), Array.getElem?_append_left (by omega), List.getElem?_append_left (by simp; omega), List.getElem?_append_left e1]
    exact this
  · by_cases e2 : j < x.length + y.length
    · have := k2 (j - x.length) (by omega)
      rw [Array.getD_eq_getD_getElem?, List.getD_eq_getElem?_getD] at this
      rw [Array.getElem?_append_left (by simp; omega), Array.getElem?_append_right (by omega), List.getElem?_append_left (by simp; omega), List.getElem?_append_right (by omega), h1]
      exact this
    · have := k3 (j - (x.length + y.length)) (by omega)
      rw [Array.getD_eq_getD_getElem?, List.getD_eq_getElem?_getD] at this
      rw [Array.getElem?_append_right (by simp; omega), List.getElem?_append_right (by simp; omega)]
      simp only [Array.size_append, List.length_append, h1, h2]
      exact this

/-- A call of a function value. -/
theorem ok_callF {f : Nat} {x : Operand} {ops : Array Operand} {ts : Array TypeId} {xi xa xs : List AV} {res y : AV} {blk' : Bk} (id : Nat) (hx : evO s x = some (.fn (.func f) xi xa)) (hcl : (xi.all closed0 && xa.all closed0) = true)
    (ha : evArgs s ops.toList = some xs) (hc : FC P f (xi ++ xs ++ xa) res) (ht : thaw id s.blk res = some (y, blk')) (hd : dOK nt d = true) :
    OkOp P w0 nt ⟨d, .call { callee := .value x, args := ops, argTypes := ts }, t, pos, af, g⟩ s ((⟨s.env, blk'⟩ : AS).put d y) := by
  intro β S a w next Q hs hn
  obtain ⟨fn, hf, hbody, hname⟩ := hc.fn
  obtain ⟨e1, e2⟩ := evArgs_ok hs ha
  have hxv := evO_ok hs hx
  generalize ex : a.eval x = cx at hxv
  cases hxv
  rename_i fi ca h1 h3 h2 h4
  simp only [Bool.and_eq_true] at hcl
  have hr : (execOp a.eval ⟨d, .call { callee := .value x, args := ops, argTypes := ts }, t, pos, af, g⟩).run P w = .ok (.enter f (fi ++ ops.map a.eval ++ ca)) w := by
    have hcf : (callFunc f (fi ++ ops.map a.eval ++ ca)).run P w = .ok (.enter f (fi ++ ops.map a.eval ++ ca)) w := by
      unfold callFunc
      rw [Sem.run_bind, run_program, Result.andThen_ok]
      simp only [hf, hname, hbody, Bool.false_eq_true, if_false, Sem.run_pure]
    simp [execOp, resolve, ex, Deferred.ofValue, invoke, hcf, -Array.append_assoc]
  unfold Oper.wp
  rw [hr]
  simp only [Oper.upon]
  have hgs : w0.heap.size ≤ w.heap.size := hs.hh.hbelow.size
  obtain ⟨g1, g2⟩ := getD_app3 (S := S) (w := w) (β := nb) (a := fi) (b := ops.map a.eval) (c := ca) (x := xi) (y := xs) (z := xa) h1 (by simpa using e1) h2
    (fun j hj => closed0_nb (all_getD hcl.1 hj) (h3 j hj)) (fun j hj => by
      have := e2 j hj
      rw [← getD_toList, Array.toList_map]; exact this) (fun j hj => closed0_nb (all_getD hcl.2 hj) (h4 j hj))
  refine (hc.pc w S _ hs.hh.hlt g1 g2).mono ?_
  rintro e w' ⟨v, S', rfl, hB, h1, h2, h3, hv⟩
  obtain ⟨q1, q2⟩ := hs.hh.extS hB h1 h2 h3
  obtain ⟨β', r1, r2, r3⟩ := thaw_ok q1 hgs ht hv (fun b hb i bj kj p q l => by
    obtain ⟨bi, z1, z2, _⟩ := hs.hh.hblk i kj q
    rw [p] at z1
    obtain rfl := Option.some.inj z1
    have := z2.lt l
    omega)
  have hs2 : SR w0 nt β' S' ⟨s.env, blk'⟩ a w' := ⟨r1, fun u z q => r3 (q2 (hs.henv u z q)), hs.hsize, hs.hdefers⟩
  exact hn _ _ _ _ (hs2.put hd r2)

theorem m_callF {f : Nat} {x : Operand} {as : Array Operand} {ts : Array TypeId} {xi xa xs : List AV} {res : AV} {e : Ef} (id : Nat) (hx : evO s x = some (.fn (.func f) xi xa)) (hcl : (xi.all closed0 && xa.all closed0) = true) (ha : evArgs s as.toList = some xs)
    (hc : FC P f (xi ++ xs ++ xa) res) (ht : thawE id res = some e) (hid : e.2.all (fun p => (s.blk p.1).isNone) = true) (hd : dOK nt d = true) :
    MStep P w0 nt ⟨d, .call { callee := .value x, args := as, argTypes := ts }, t, pos, af, g⟩ s e.1 e.2 := by
  intro t2 hle hfr
  have hn : ∀ p ∈ e.2, t2.blk p.1 = none := fun p hp => hfr p hp (by
    have := List.all_eq_true.1 hid p hp
    cases q : s.blk p.1 with
    | none => rfl
    | some k => simp [q] at this)
  exact ok_callF id (evO_mono hle hx) hcl (evArgs_mono hle ha) hc (thawE_ok ht hn) hd
end
end Go.Aw
