/-
  Rules for memory of the call's own: stores, arrays that are made, elements, appends.
-/
import Derived.Test.YtpnjflimilamdaaGreatAw4
import Derived.Laws.AppendOwn
import Derived.Laws.MakeOwn
namespace Go.Aw
open Go.RowKit

theorem getD_toList (cs : Array Value) (j : Nat) : cs.toList.getD j undef = cs.getD j undef := by
  simp [Array.getD_eq_getD_getElem?, List.getD_eq_getElem?_getD]

def setAt {α : Type} (l : List α) (o : Nat) (vs : List α) : List α := l.take o ++ vs ++ l.drop (o + vs.length)

theorem setAt_getD {α : Type} (l : List α) (o : Nat) (vs : List α) (d : α) (h : o + vs.length ≤ l.length) (j : Nat) :
    (setAt l o vs).getD j d = if o ≤ j ∧ j < o + vs.length then vs.getD (j - o) d else l.getD j d := by
  unfold setAt
  simp only [List.getD_eq_getElem?_getD]
  have ho : (l.take o).length = o := by rw [List.length_take]; omega
  by_cases h1 : j < o
  · rw [List.append_assoc, List.getElem?_append_left (by omega), List.getElem?_take, if_pos h1, if_neg (by omega)]
  · by_cases h2 : j < o + vs.length
    · rw [if_pos ⟨by omega, h2⟩, List.append_assoc, List.getElem?_append_right (by omega), ho, List.getElem?_append_left (by omega)]
    · rw [if_neg (by omega), List.getElem?_append_right (by rw [List.length_append]; omega), List.length_append, ho, List.getElem?_drop]
      congr 2
      omega

theorem setAt_length {α : Type} (l : List α) (o : Nat) (vs : List α) (h : o + vs.length ≤ l.length) : (setAt l o vs).length = l.length := by
  unfold setAt
  simp only [List.length_append, List.length_take, List.length_drop]
  omega

/-- One own block is written; nothing that lasts lies in it. -/
theorem HR.write {w0 : B0} {w w' : World} {β : Bt} {S : St} {blk : Bk} (h : HR w0 β S blk w) {id : Nat} {k k' : AB} {bi : BI} (hk : blk id = some k) (hl : k.live = true) (hbi : β id = some bi)
    (hS : ∀ o, ¬ S bi.b o) (hsz : w'.heap.size = w.heap.size) (hot : ∀ b, b ≠ bi.b → w'.heap[b]? = w.heap[b]?) (hos : w'.os = w.os) (htp : w'.tape = w.tape) (hout : w'.output = w.output)
    (hnew : (∀ {v x}, VR β S w v x → VR β S w' v x) → BR β S w' bi k') :
    HR w0 β S (upd blk id k') w' ∧ ∀ {v x}, VR β S w v x → VR β S w' v x := by
  have hSm : ∀ b o, S b o → S b o ∧ w'.cell? ⟨b, o, none⟩ = w.cell? ⟨b, o, none⟩ := fun b o q => ⟨q, World.cell?_of_block (hot b (fun e => hS o (e ▸ q)))⟩
  have hv : ∀ {v x}, VR β S w v x → VR β S w' v x := fun q => q.mono (fun _ _ q => q) hSm
  obtain ⟨bi2, e1, _, hge⟩ := h.hblk id k hk
  rw [hbi] at e1
  obtain rfl := Option.some.inj e1
  refine ⟨⟨?_, ?_, ?_, h.hold, h.hnew, fun b o q => by rw [hsz]; exact h.hlt b o q, ?_⟩, hv⟩
  · intro i kk q
    by_cases e : i = id
    · subst e
      have : some k' = some kk := (upd_same blk i k').symm.trans q
      obtain rfl := Option.some.inj this
      exact ⟨bi, hbi, hnew hv, fun _ => hge hl⟩
    · rw [upd_other blk k' e] at q
      obtain ⟨b2, h1, h2, h3⟩ := h.hblk i kk q
      exact ⟨b2, h1, h2.ext (fun _ _ q => q) hSm (fun hl2 => hot _ (fun eb => h.hinj i id b2 bi kk k e q hl2 hk hl h1 hbi eb)) (fun _ _ q => q), h3⟩
  · intro i b q
    by_cases e : i = id
    · subst e; exact ⟨k', upd_same blk i k'⟩
    · obtain ⟨k2, hk2⟩ := h.hdom i b q
      exact ⟨k2, by rw [upd_other blk k' e]; exact hk2⟩
  · intro i j b1 b2 k1 k2 hne q1 l1 q2 l2 p1 p2
    by_cases ei : i = id
    · subst ei
      rw [upd_other blk k' (fun e => hne e.symm)] at q2
      exact h.hinj i j b1 b2 k k2 hne hk hl q2 l2 p1 p2
    · rw [upd_other blk k' ei] at q1
      by_cases ej : j = id
      · subst ej
        exact h.hinj i j b1 b2 k1 k hne q1 l1 hk hl p1 p2
      · rw [upd_other blk k' ej] at q2
        exact h.hinj i j b1 b2 k1 k2 hne q1 l1 q2 l2 p1 p2
  · refine ⟨hos.trans h.hbelow.os, htp.trans h.hbelow.tape, hout.trans h.hbelow.output, by rw [hsz]; exact h.hbelow.size, fun b hb => ?_⟩
    rw [hot b (fun e => hge hl (e ▸ hb))]
    exact h.hbelow.block b hb

section
variable {P : Program} {ty : Ty} {w0 : B0} {nt : Nat} {s : AS} {d : Option Nat} {t : TypeId} {pos : String} {af : Array Edge} {g : Option (Nat × Bool)}

theorem ok_storeB (hty : TyOK P ty) {u : Nat} {i : TI} {x y : Operand} {id off : Nat} {v : AV} {pin : Option BI} {cells vs cells' : List AV} (hi : ty u = some i) (hx : evO s x = some (.ptr id off)) (hy : evO s y = some v)
    (hb : s.blk id = some (.bx pin cells)) (hv : cellsV v = some vs) (hl : Nat.beq vs.length i.size = true) (ho : Nat.ble (off + vs.length) cells.length = true) (hc : forceL (setAt cells off vs) = some cells') :
    OkOp P w0 nt ⟨none, .store u x y, t, pos, af, g⟩ s (s.setB id (.bx pin cells')) := by
  intro β S a w next Q hs hn
  have hl := Nat.eq_of_beq_eq_true hl
  have ho : off + vs.length ≤ cells.length := Nat.le_of_ble_eq_true ho
  obtain rfl := forceL_eq hc
  obtain ⟨ci, _, _, hI⟩ := hty.get hi
  have h1 := evO_ok hs hx
  have h2 := evO_ok hs hy
  generalize e1 : a.eval x = ax at h1
  cases h1
  rename_i bi hbi
  obtain ⟨bi2, e2, h3, h4⟩ := hs.hh.hblk id _ hb
  rw [hbi] at e2
  obtain rfl := Option.some.inj e2
  obtain ⟨cs, ct, h5, h6, h7, h8⟩ := h3
  obtain ⟨h9, h10⟩ := cellsV_ok h2 hv
  have hst := run_storeCells_at P bi.b off ct (a.eval y).cells.toList 0 cs w h5 (by simp; omega) (by
    intro q hq
    obtain ⟨j, hj, rfl⟩ := List.mem_iff_getElem.1 hq
    have := (h10 j (by rw [← h9]; simpa using hj)).2
    rw [Nat.zero_add] at this
    have e : (a.eval y).cells.getD j undef = (a.eval y).cells.toList[j] := by
      simp at hj
      simp [Array.getD, hj]
    rwa [e] at this)
  have h9' : (a.eval y).cells.toList.length = vs.length := by simpa using h9
  have ho' : off + (a.eval y).cells.toList.length ≤ cs.toList.length := by rw [h9']; simpa [h6] using ho
  simp only [Nat.add_zero] at hst
  obtain ⟨row, hrow⟩ : ∃ row : Array Value, row = (cs.toList.take off ++ (a.eval y).cells.toList ++ cs.toList.drop (off + (a.eval y).cells.toList.length)).toArray := ⟨_, rfl⟩
  rw [← hrow] at hst
  have hrow' : row = (setAt cs.toList off (a.eval y).cells.toList).toArray := hrow
  have hrs : row.size = cells.length := by rw [hrow', List.size_toArray, setAt_length _ _ _ ho', ← h6]; simp
  have hrd : ∀ j, row.getD j undef = if off ≤ j ∧ j < off + vs.length then (a.eval y).cells.getD (j - off) undef else cs.getD j undef := by
    intro j
    rw [← getD_toList, hrow', List.toList_toArray, setAt_getD _ _ _ _ ho', h9']
    split <;> rw [getD_toList]
  have hr : (execOp a.eval ⟨none, .store u x y, t, pos, af, g⟩).run P w = .ok .skip (w.setRow bi.b row) := by
    have : (a.eval y).cells.size = ci.size := by rw [h9, hl, hI.size]
    simp [execOp, e1, Instr.storeAt, Instr.sureAddr, storeVar, sizeOf, typeInfo, hI.info, this] at hst ⊢
    rw [hst]
    rfl
  unfold Oper.wp
  rw [hr]
  have hw := hs.hh.write (k' := .bx pin (setAt cells off vs)) hb rfl hbi h8.1 (w' := w.setRow bi.b row)
    (by simp) (fun b hb => setRow_other w _ _ _ hb) rfl rfl rfl (fun hm => ⟨row, ct, setRow_heap w _ cs _ ct _ h5, by rw [setAt_length _ _ _ ho, hrs], fun j hj => by
      rw [setAt_length _ _ _ ho] at hj
      rw [setAt_getD _ _ _ _ ho, Nat.zero_add, hrd]
      split
      · have := h10 (j - off) (by omega)
        rw [Nat.zero_add] at this
        exact ⟨hm this.1, this.2⟩
      · have := h7 j (by omega)
        rw [Nat.zero_add] at this
        exact ⟨hm this.1, this.2⟩, h8⟩)
  exact hn β S _ _ ⟨hw.1, fun q z hz => hw.2 (hs.henv q z hz), hs.hsize, hs.hdefers⟩

end
end Go.Aw
