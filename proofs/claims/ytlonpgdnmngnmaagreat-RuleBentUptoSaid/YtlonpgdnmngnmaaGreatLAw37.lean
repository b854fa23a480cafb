/-
  Fields of elements of an own array are loaded; rows told by less.
-/
import Derived.Test.YtlonpgdnmngnmaaGreatGB
namespace Go.Aw
open Go.RowKit
section
variable {P : Program} {ty : Ty} {w0 : B0} {nt : Nat} {s : AS} {d : Option Nat} {t : TypeId} {pos : String} {af : Array Edge} {g : Option (Nat × Bool)}
/-- One cell of an element of an own array is loaded. -/
theorem m_loadA1 (hty : TyOK P ty) {u : Nat} {ui : TI} {x : Operand} {id i off e es : Nat} {pin : Option BI} {wr : Bool} {rows : List (List AV)} {row : List AV} {v : AV} (hi : ty u = some ui) (ha : ui.desc.isAgg = false) (hx : evO s x = some (.aptr id i off)) (hk : s.blk id = some (.ar pin e es rows wr)) (hr : rows[i]? = some row)
    (hf : (row.drop off).take 1 = [v]) (hd : dOK nt d = true) : MStep P w0 nt ⟨d, .load u x, t, pos, af, g⟩ s v [] := by
  intro t2 hle _
  have hb : behind s.blk 1 (.aptr id i off) = some [v] := by simp only [behind, hk, hr, Option.map_some, hf]
  exact ok_load1 hty hi ha (evO_mono hle hx) (behind_mono hle hb) hd
end
theorem Wkr_set : ∀ {rows : List (List AV)} {i : Nat} {a b : List AV}, Wks a b → Wkr (rows.set i a) (rows.set i b)
  | [], _, _, _, _ => .nil
  | _ :: _, 0, _, _, h => .cons h (.refl _)
  | _ :: _, _ + 1, _, _, h => .cons (Wks.refl _) (Wkr_set h)
end Go.Aw
