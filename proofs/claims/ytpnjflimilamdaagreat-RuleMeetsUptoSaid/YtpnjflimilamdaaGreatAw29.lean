/-
  Boxes lent to be read.
-/
import Derived.Test.YtpnjflimilamdaaGreatAw28
namespace Go.Aw
open Go.RowKit

section
variable {P : Program} {w0 : B0} {nt : Nat} {s : AS} {d : Option Nat} {t : TypeId} {pos : String} {af : Array Edge} {g : Option (Nat × Bool)}

/-- A call to which a box is lent, to be read: what comes back is told without any cell. -/
theorem ok_lentBox {f id0 : Nat} {pin : Option BI} {cells cells' : List AV} {as : Array Operand} {ts : Array TypeId} {xs : List AV} {res : AV} (hk : s.blk id0 = some (.bx pin cells)) (hcs : argSs s.blk cells = some cells') (ha : evArgs (s.setB id0 (.rob cells')) as.toList = some xs) (hc : FC P f xs res) (hd : dOK nt d = true) :
    OkOp P w0 nt ⟨d, .call { callee := .value (.func f), args := as, argTypes := ts }, t, pos, af, g⟩ s (s.put d (hideV res)) := by
  intro β S a w next Q hs hn
  obtain ⟨fn, hf, hbody, hname⟩ := hc.fn
  obtain ⟨β1, S1, hs1⟩ := less_freezeBox id0 hk hcs w0 nt β S a w hs
  obtain ⟨e1, e2⟩ := evArgs_ok hs1 ha
  have hr : (execOp a.eval ⟨d, .call { callee := .value (.func f), args := as, argTypes := ts }, t, pos, af, g⟩).run P w = .ok (.enter f (as.map a.eval)) w := by
    have hcf : (callFunc f (as.map a.eval)).run P w = .ok (.enter f (as.map a.eval)) w := by
      unfold callFunc
      rw [Sem.run_bind, run_program, Result.andThen_ok]
      simp only [hf, hname, hbody, Bool.false_eq_true, if_false, Sem.run_pure]
    simp [execOp, resolve, Act.eval, Deferred.ofValue, invoke, hcf]
  unfold Oper.wp
  rw [hr]
  simp only [Oper.upon]
  refine (hc.pc w S1 (as.map a.eval) hs1.hh.hlt (by simpa using e1) (fun j hj => by
    have := e2 j hj
    rw [← getD_toList, Array.toList_map]; exact this)).mono ?_
  rintro e w' ⟨v, S', rfl, hB, h1, h2, h3, hv⟩
  obtain ⟨q1, q2⟩ := hs.hh.extS (S' := S) hB (fun b o q => q) (fun b o q _ => q) (fun b o q => Nat.lt_of_lt_of_le (hs.hh.hlt b o q) hB.size)
  have hs2 : SR w0 nt β S s a w' := ⟨q1, fun u z q => q2 (hs.henv u z q), hs.hsize, hs.hdefers⟩
  exact hn _ _ _ _ (hs2.put hd (rv_hide hv))

theorem m_lentBox {f id0 : Nat} {pin : Option BI} {cells cells' : List AV} {as : Array Operand} {ts : Array TypeId} {xs : List AV} {res y : AV} (hk : s.blk id0 = some (.bx pin cells)) (hcs : argSs s.blk cells = some cells') (ha : evArgs (s.setB id0 (.rob cells')) as.toList = some xs) (hc : FC P f xs res)
    (hy : hideV res = y) (hd : dOK nt d = true) : MStep P w0 nt ⟨d, .call { callee := .value (.func f), args := as, argTypes := ts }, t, pos, af, g⟩ s y [] := by
  subst hy
  exact fun t2 hle _ => ok_lentBox (hle.2 _ _ hk) (argSs_mono hle hcs) (evArgs_mono (le_setB hle _ _) ha) hc hd

def isFnT (P : Program) (u : TypeId) : Bool := match P.underlying u with
  | some (.func ..) => true
  | _ => false
/-- Whether a function value is nil. -/
theorem m_eqNil {xt yt : TypeId} {x y : Operand} {v : AV} (hx : evO s x = some v) (hv : (match v with | .nilf | .fn _ _ _ => true | _ => false) = true) (hy : evO s y = some .nilf) (hu : isFnT P xt = true) (hd : dOK nt d = true) :
    MStep P w0 nt ⟨d, .binOp .eql xt x y yt, t, pos, af, g⟩ s (.bool (match v with | .nilf => true | _ => false)) [] := by
  intro t2 hle _
  refine ok_value hd fun β S a w hs => ?_
  have h1 := evO_ok hs (evO_mono hle hx)
  have h2 := evO_ok hs (evO_mono hle hy)
  generalize e1 : a.eval x = cx at h1
  generalize e2 : a.eval y = cy at h2
  cases h2
  obtain ⟨p1, p2, p3, hu'⟩ : ∃ p1 p2 p3, P.underlying xt = some (.func p1 p2 p3) := by
    unfold isFnT at hu
    split at hu
    · rename_i h; exact ⟨_, _, _, h⟩
    · cases hu
  cases h1 <;> first
    | (cases hv; done)
    | skip
  · have hg : (eqGuard .eql xt x y .nilFunc .nilFunc).run P w = .ok () w := by
      unfold eqGuard
      simp
    have heq : (Op.equal xt .nilFunc .nilFunc).run P w = .ok true w := by
      show (Op.equalIn (9999 + 1) xt .nilFunc .nilFunc).run P w = _
      rw [Op.equalIn]
      simp only [Sem.run_bind, run_underlying hu', Result.andThen_ok, Sem.run_pure]
    exact ⟨.bool true, by simp [execOp, e1, e2, hg, binOp, heq], .bool _⟩
  · rename_i f fi ca xi xa _ _ _ _
    have hg : (eqGuard .eql xt x y (.func f fi ca) .nilFunc).run P w = .ok () w := by
      unfold eqGuard
      simp
    have heq : (Op.equal xt (.func f fi ca) .nilFunc).run P w = .ok false w := by
      show (Op.equalIn (9999 + 1) xt (.func f fi ca) .nilFunc).run P w = _
      rw [Op.equalIn]
      simp only [Sem.run_bind, run_underlying hu', Result.andThen_ok, Sem.run_pure]
    exact ⟨.bool false, by simp [execOp, e1, e2, hg, binOp, heq], .bool _⟩

/-- A map is made; nothing is told of it. -/
theorem m_makeMap {u : TypeId} (hd : dOK nt d = true) : MStep P w0 nt ⟨d, .makeMap u none, t, pos, af, g⟩ s .any [] := by
  intro t2 hle _ β S a w next Q hs hn
  have hr : (execOp a.eval ⟨d, .makeMap u none, t, pos, af, g⟩).run P w = .ok (.value (.map (some w.heap.size))) (w.alloc (.map #[] 0)) := by
    simp [execOp, Instr.makeMap]
  unfold Oper.wp
  rw [hr]
  have hB := below_alloc1 w (.map #[] 0)
  have hs2 : SR w0 nt β S t2 a (w.alloc (.map #[] 0)) := ⟨hs.hh.ext hB, fun v x q => (hs.henv v x q).mono (fun _ _ q => q) (fun b o q => ⟨q, cell_lt hB (hs.hh.hlt b o q)⟩), hs.hsize, hs.hdefers⟩
  exact hn _ _ _ _ (hs2.put hd (.any _))
end
end Go.Aw
