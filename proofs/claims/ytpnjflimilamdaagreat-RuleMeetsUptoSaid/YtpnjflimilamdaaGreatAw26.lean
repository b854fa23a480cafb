/-
  Guards and tests within a region whose order is drawn.
-/
import Derived.Test.YtpnjflimilamdaaGreatAw25
namespace Go.Aw
open Go.RowKit

section
variable {P : Program} {ty : Ty} {w0 : B0} {nt : Nat} {s : AS} {ops : Array Oper} {pt : List (List Nat)} {r : List Ent} {l : List Oper} {F : List Ent → Prop} {d : Option Nat} {t : TypeId} {pos : String} {af : Array Edge}

theorem WD_m {o : Oper} {v : AV} {bs : List (Nat × AB)} (hg : o.guard = none) (h : MStep P w0 nt o (rst pt s r r.length) v bs) (q : WD P w0 nt ops pt s (⟨o.dst, v, bs⟩ :: r) l F) : WD P w0 nt ops pt s r (o :: l) F := WD_cons (.inl ⟨hg, h⟩) q

theorem WD_ung {op : Op} {j u : Nat} {b : Bool} (hj : (ops[j]?).bind (·.dst) = some u) (ht : (rst pt s r r.length).env u = some (.bool b)) (q : WD P w0 nt ops pt s r (⟨d, op, t, pos, af, none⟩ :: l) F) :
    WD P w0 nt ops pt s r (⟨d, op, t, pos, af, some (j, b)⟩ :: l) F := by
  obtain ⟨es, h1, h2, h3⟩ := q
  refine ⟨es, h1, fun k o e hk he => ?_, h3⟩
  cases k with
  | zero =>
    obtain rfl := Option.some.inj hk
    obtain ⟨q1, q2⟩ := h2 0 _ e rfl he
    refine ⟨q1, .inr ⟨j, b, u, rfl, hj, .inl ⟨?_, ?_⟩⟩⟩
    · simpa using ht
    · rcases q2 with q2 | ⟨_, _, _, q3, _⟩
      · exact q2.2
      · cases q3
  | succ k => exact h2 (k + 1) o e hk he

theorem WD_off {op : Op} {j u : Nat} {b : Bool} (hj : (ops[j]?).bind (·.dst) = some u) (ht : (rst pt s r r.length).env u = some (.bool (!b)) ∨ (rst pt s r r.length).env u = some (.tup [])) (hd : dOK nt d = true)
    (q : WD P w0 nt ops pt s (⟨d, .tup [], []⟩ :: r) l F) : WD P w0 nt ops pt s r (⟨d, op, t, pos, af, some (j, b)⟩ :: l) F :=
  WD_cons (o := ⟨d, op, t, pos, af, some (j, b)⟩) (.inr ⟨j, b, u, rfl, hj, .inr ⟨ht, rfl, rfl, hd⟩⟩) q
theorem WD_offT {op : Op} {j u : Nat} (hj : (ops[j]?).bind (·.dst) = some u) (ht : (rst pt s r r.length).env u = some (.bool false)) (hd : dOK nt d = true)
    (q : WD P w0 nt ops pt s (⟨d, .tup [], []⟩ :: r) l F) : WD P w0 nt ops pt s r (⟨d, op, t, pos, af, some (j, true)⟩ :: l) F := WD_off hj (.inl ht) hd q
theorem WD_offF {op : Op} {j u : Nat} (hj : (ops[j]?).bind (·.dst) = some u) (ht : (rst pt s r r.length).env u = some (.bool true)) (hd : dOK nt d = true)
    (q : WD P w0 nt ops pt s (⟨d, .tup [], []⟩ :: r) l F) : WD P w0 nt ops pt s r (⟨d, op, t, pos, af, some (j, false)⟩ :: l) F := WD_off hj (.inl ht) hd q
theorem WD_offU {op : Op} {j u : Nat} {b : Bool} (hj : (ops[j]?).bind (·.dst) = some u) (ht : (rst pt s r r.length).env u = some (.tup [])) (hd : dOK nt d = true)
    (q : WD P w0 nt ops pt s (⟨d, .tup [], []⟩ :: r) l F) : WD P w0 nt ops pt s r (⟨d, op, t, pos, af, some (j, b)⟩ :: l) F := WD_off hj (.inr ht) hd q

theorem WD_cmp {xt yt : TypeId} {op : BinOp} {x y : Operand} {k : IntKind} {a b : Int} {p : Prop} (hx : evO (rst pt s r r.length) x = some (.int k a)) (hy : evO (rst pt s r r.length) y = some (.int k b)) (hp : cmpI op a b = some p) (hd : dOK nt d = true)
    (h1 : p → WD P w0 nt ops pt s (⟨d, .bool true, []⟩ :: r) l F) (h2 : ¬ p → WD P w0 nt ops pt s (⟨d, .bool false, []⟩ :: r) l F) : WD P w0 nt ops pt s r (⟨d, .binOp op xt x y yt, t, pos, af, none⟩ :: l) F := by
  by_cases h : p
  · exact WD_m rfl (fun t2 hle _ => ok_binI (evO_mono hle hx) (evO_mono hle hy) ((cmp_bin hp).1 h) hd) (h1 h)
  · exact WD_m rfl (fun t2 hle _ => ok_binI (evO_mono hle hx) (evO_mono hle hy) ((cmp_bin hp).2 h) hd) (h2 h)

theorem WD_call {f : Nat} {as : Array Operand} {ts : Array TypeId} {xs : List AV} {res : AV} {e : Ef} (id : Nat) (ha : evArgs (rst pt s r r.length) as.toList = some xs) (hc : FC P f xs res) (ht : thawE id res = some e)
    (hid : e.2.all (fun p => ((rst pt s r r.length).blk p.1).isNone) = true) (hd : dOK nt d = true) (q : WD P w0 nt ops pt s (⟨d, e.1, e.2⟩ :: r) l F) :
    WD P w0 nt ops pt s r (⟨d, .call { callee := .value (.func f), args := as, argTypes := ts }, t, pos, af, none⟩ :: l) F := WD_m rfl (m_call id ha hc ht hid hd) q

theorem WD_callB {f : Nat} {as : Array Operand} {ts : Array TypeId} {xs : List AV} {b : Bool} (ha : evArgs (rst pt s r r.length) as.toList = some xs) (hc : FC P f xs (.bool b)) (hd : dOK nt d = true)
    (h1 : b = true → WD P w0 nt ops pt s (⟨d, .bool true, []⟩ :: r) l F) (h2 : b = false → WD P w0 nt ops pt s (⟨d, .bool false, []⟩ :: r) l F) :
    WD P w0 nt ops pt s r (⟨d, .call { callee := .value (.func f), args := as, argTypes := ts }, t, pos, af, none⟩ :: l) F := by
  refine WD_call 0 ha hc rfl rfl hd ?_
  cases b
  · exact h2 rfl
  · exact h1 rfl
end
end Go.Aw
