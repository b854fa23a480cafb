/-
  NARROWER THAN 'FOR EVERY INPUT', by the rows' own cells (each row's printed sentence says how): RuleStill: loops · RuleBent: loops · RuleDefs: loops · RuleScopes: loops · RuleElims: loops · RuleDecodes: loops.
  DERIVED. THE GIVEN ROWS OF THIS SEAT. 6 by the template 'for every input the law returns true; each argument reads behind the call as it read before'; 0 by the template 'total and deterministic' (their statements: YtlonpgdnmngnmaaGreatTotals.lean).
  GIVEN WITH THE SEED: the statements are not yours to turn. If you find one false, say at which input.
  Laid BY PROGRAM, IN A SANDBOX (cutbox-rows.mjs): the forced cells as the released guide's own fill.sh prints them over the translation 5ec3d95a1571da8e… (all of the seat's roots in one cut). By AI agents, Wed Nov 11 2026. No macro, syntax, notation, axiom, sorry.
-/
import Derived.Test.YtlonpgdnmngnmaaGreatChecked
import GoSem.Claim
import GoSem.ClaimJoined
import GoSem.ClaimMapViews
import Derived.JoinedTies
import Derived.KernelRfl
namespace Go.Proofs.YtlonpgdnmngnmaaGreat
/- THE CELL 'sum', in the pinned program and in every row, IS THE sha256 OF THE DUMP (.gsa) THAT YtlonpgdnmngnmaaGreatProg.lean LOADS. Nothing in Lean hashes anything: it is a label: what it is worth is what the hold of that sum in a sandbox is worth. -/
noncomputable def Tryz.pinned : Pinned := { name := "ytlonpgdnmngnmaagreat", sum := "5ec3d95a1571da8ea648ba915ee635f74352b0fc0955fcbd569a1e120dbf8275", checked := Tryz.checked }
namespace Rows
def none {H : Type} : Left H := { results := [], args := [] }

/-- 'porismlaw14.RuleStill': WHATEVER THE INPUT: true; the input reads as it did. -/
def ruleStillSpec : ChangeSpec := { name := "ruleStill", fn := fun _ => fun
  | [d1, d2] => { results := [.lit (.bool true)], args := [d1, d2] }
  | _ => none }
def ruleStillRow : OpenClaim := { program := "ytlonpgdnmngnmaagreat", sum := "5ec3d95a1571da8ea648ba915ee635f74352b0fc0955fcbd569a1e120dbf8275", func := "porism/porismlaw14.RuleStill", spec := "ruleStill", unfollowed := true, recurses := true, loops := true, apart := false }
def RuleStillSaid : Prop := ruleStillRow.holds Tryz.pinned (OpenSpec.ofChange ruleStillSpec)

/-- ITS FALSE NEIGHBOUR: 'it returns false'. Refute it at one input. -/
def ruleStillWrong : ChangeSpec := { name := "ruleStill", fn := fun _ => fun
  | [d1, d2] => { results := [.lit (.bool false)], args := [d1, d2] }
  | _ => none }
def RuleStillWrongFalsely : Prop := ruleStillRow.holds Tryz.pinned (OpenSpec.ofChange ruleStillWrong)

/-- 'porismlaw14.RuleBent': WHATEVER THE INPUT: true; the input reads as it did. -/
def ruleBentSpec : ChangeSpec := { name := "ruleBent", fn := fun _ => fun
  | [d1, d2, d3] => { results := [.lit (.bool true)], args := [d1, d2, d3] }
  | _ => none }
def ruleBentRow : OpenClaim := { program := "ytlonpgdnmngnmaagreat", sum := "5ec3d95a1571da8ea648ba915ee635f74352b0fc0955fcbd569a1e120dbf8275", func := "porism/porismlaw14.RuleBent", spec := "ruleBent", unfollowed := true, recurses := true, loops := true, apart := false }
def RuleBentSaid : Prop := ruleBentRow.holds Tryz.pinned (OpenSpec.ofChange ruleBentSpec)

/-- ITS FALSE NEIGHBOUR: 'it returns false'. Refute it at one input. -/
def ruleBentWrong : ChangeSpec := { name := "ruleBent", fn := fun _ => fun
  | [d1, d2, d3] => { results := [.lit (.bool false)], args := [d1, d2, d3] }
  | _ => none }
def RuleBentWrongFalsely : Prop := ruleBentRow.holds Tryz.pinned (OpenSpec.ofChange ruleBentWrong)

/-- 'porismlaw14.RuleDefs': WHATEVER THE INPUT: true; the input reads as it did. -/
def ruleDefsSpec : ChangeSpec := { name := "ruleDefs", fn := fun _ => fun
  | [d1, d2] => { results := [.lit (.bool true)], args := [d1, d2] }
  | _ => none }
def ruleDefsRow : OpenClaim := { program := "ytlonpgdnmngnmaagreat", sum := "5ec3d95a1571da8ea648ba915ee635f74352b0fc0955fcbd569a1e120dbf8275", func := "porism/porismlaw14.RuleDefs", spec := "ruleDefs", unfollowed := true, recurses := true, loops := true, apart := false }
def RuleDefsSaid : Prop := ruleDefsRow.holds Tryz.pinned (OpenSpec.ofChange ruleDefsSpec)

/-- ITS FALSE NEIGHBOUR: 'it returns false'. Refute it at one input. -/
def ruleDefsWrong : ChangeSpec := { name := "ruleDefs", fn := fun _ => fun
  | [d1, d2] => { results := [.lit (.bool false)], args := [d1, d2] }
  | _ => none }
def RuleDefsWrongFalsely : Prop := ruleDefsRow.holds Tryz.pinned (OpenSpec.ofChange ruleDefsWrong)

/-- 'porismlaw14.RuleScopes': WHATEVER THE INPUT: true; the input reads as it did. -/
def ruleScopesSpec : ChangeSpec := { name := "ruleScopes", fn := fun _ => fun
  | [d1, d2, d3] => { results := [.lit (.bool true)], args := [d1, d2, d3] }
  | _ => none }
def ruleScopesRow : OpenClaim := { program := "ytlonpgdnmngnmaagreat", sum := "5ec3d95a1571da8ea648ba915ee635f74352b0fc0955fcbd569a1e120dbf8275", func := "porism/porismlaw14.RuleScopes", spec := "ruleScopes", unfollowed := true, recurses := true, loops := true, apart := false }
def RuleScopesSaid : Prop := ruleScopesRow.holds Tryz.pinned (OpenSpec.ofChange ruleScopesSpec)

/-- ITS FALSE NEIGHBOUR: 'it returns false'. Refute it at one input. -/
def ruleScopesWrong : ChangeSpec := { name := "ruleScopes", fn := fun _ => fun
  | [d1, d2, d3] => { results := [.lit (.bool false)], args := [d1, d2, d3] }
  | _ => none }
def RuleScopesWrongFalsely : Prop := ruleScopesRow.holds Tryz.pinned (OpenSpec.ofChange ruleScopesWrong)

/-- 'porismlaw14.RuleElims': WHATEVER THE INPUT: true; the input reads as it did. -/
def ruleElimsSpec : ChangeSpec := { name := "ruleElims", fn := fun _ => fun
  | [d1, d2, d3, d4] => { results := [.lit (.bool true)], args := [d1, d2, d3, d4] }
  | _ => none }
def ruleElimsRow : OpenClaim := { program := "ytlonpgdnmngnmaagreat", sum := "5ec3d95a1571da8ea648ba915ee635f74352b0fc0955fcbd569a1e120dbf8275", func := "porism/porismlaw14.RuleElims", spec := "ruleElims", unfollowed := true, recurses := true, loops := true, apart := false }
def RuleElimsSaid : Prop := ruleElimsRow.holds Tryz.pinned (OpenSpec.ofChange ruleElimsSpec)

/-- ITS FALSE NEIGHBOUR: 'it returns false'. Refute it at one input. -/
def ruleElimsWrong : ChangeSpec := { name := "ruleElims", fn := fun _ => fun
  | [d1, d2, d3, d4] => { results := [.lit (.bool false)], args := [d1, d2, d3, d4] }
  | _ => none }
def RuleElimsWrongFalsely : Prop := ruleElimsRow.holds Tryz.pinned (OpenSpec.ofChange ruleElimsWrong)

/-- 'porismlaw14.RuleDecodes': WHATEVER THE INPUT: true; the input reads as it did. -/
def ruleDecodesSpec : ChangeSpec := { name := "ruleDecodes", fn := fun _ => fun
  | [d1, d2, d3, d4] => { results := [.lit (.bool true)], args := [d1, d2, d3, d4] }
  | _ => none }
def ruleDecodesRow : OpenClaim := { program := "ytlonpgdnmngnmaagreat", sum := "5ec3d95a1571da8ea648ba915ee635f74352b0fc0955fcbd569a1e120dbf8275", func := "porism/porismlaw14.RuleDecodes", spec := "ruleDecodes", unfollowed := true, recurses := true, loops := true, apart := false }
def RuleDecodesSaid : Prop := ruleDecodesRow.holds Tryz.pinned (OpenSpec.ofChange ruleDecodesSpec)

/-- ITS FALSE NEIGHBOUR: 'it returns false'. Refute it at one input. -/
def ruleDecodesWrong : ChangeSpec := { name := "ruleDecodes", fn := fun _ => fun
  | [d1, d2, d3, d4] => { results := [.lit (.bool false)], args := [d1, d2, d3, d4] }
  | _ => none }
def RuleDecodesWrongFalsely : Prop := ruleDecodesRow.holds Tryz.pinned (OpenSpec.ofChange ruleDecodesWrong)

/- THE SECOND FORM. 'bulk': how many values and letters a reading holds, each counted each time it is reached (what is shared counts as often as it is met; a slice's spare places count too). A statement '..UptoSaid' is the law's where the arguments, and the package variables that the reading takes, are together of bulk at most 1048576: NARROWER than '..Said'. Prove '..Said' where nothing that the law and all that it calls make is longer than what came in: it says more and counts as full. Else prove '..UptoSaid'. A law counts once. -/
mutual
def uptoBulk {H : Type} : DataW H → Nat
  | .lit (.string bytes) => bytes.length + 1
  | .lit _ => 1
  | .nil => 1
  | .ptr d => uptoBulk d + 1
  | .slice elems spare => uptoBulkAll elems + uptoBulkAll spare + 1
  | .agg parts => uptoBulkAll parts + 1
  | .iface _ d => uptoBulk d + 1
  | .map entries => uptoBulkEntries entries + 1
  | .held _ => 1
def uptoBulkAll {H : Type} : List (DataW H) → Nat
  | [] => 0
  | d :: r => uptoBulk d + uptoBulkAll r
def uptoBulkEntries {H : Type} : List (Lit × DataW H) → Nat
  | [] => 0
  | x :: r => uptoBulkEntry x + uptoBulkEntries r
def uptoBulkEntry {H : Type} : Lit × DataW H → Nat
  | (.string bytes, d) => bytes.length + uptoBulk d + 1
  | (_, d) => uptoBulk d + 1
 end
def uptoSmall : (H : Type) → List (DataW H) → Bool := fun _ ds => decide (uptoBulkAll ds ≤ 1048576)
def OpenSpec.upto (s : _root_.Go.ChangeSpec) : _root_.Go.OpenSpec := { _root_.Go.OpenSpec.ofChange s with cond := some uptoSmall }

/-- 'porismlaw14.RuleStill', WHERE WHAT IT READS IS OF BULK AT MOST 1048576: true; the input reads as it did. -/
def ruleStillUptoRow : OpenClaim := { program := "ytlonpgdnmngnmaagreat", sum := "5ec3d95a1571da8ea648ba915ee635f74352b0fc0955fcbd569a1e120dbf8275", func := "porism/porismlaw14.RuleStill", spec := "ruleStill", unfollowed := true, recurses := true, loops := true, apart := false, narrowed := true }
def RuleStillUptoSaid : Prop := ruleStillUptoRow.holds Tryz.pinned (OpenSpec.upto ruleStillSpec)

/-- 'porismlaw14.RuleBent', WHERE WHAT IT READS IS OF BULK AT MOST 1048576: true; the input reads as it did. -/
def ruleBentUptoRow : OpenClaim := { program := "ytlonpgdnmngnmaagreat", sum := "5ec3d95a1571da8ea648ba915ee635f74352b0fc0955fcbd569a1e120dbf8275", func := "porism/porismlaw14.RuleBent", spec := "ruleBent", unfollowed := true, recurses := true, loops := true, apart := false, narrowed := true }
def RuleBentUptoSaid : Prop := ruleBentUptoRow.holds Tryz.pinned (OpenSpec.upto ruleBentSpec)

/-- 'porismlaw14.RuleDefs', WHERE WHAT IT READS IS OF BULK AT MOST 1048576: true; the input reads as it did. -/
def ruleDefsUptoRow : OpenClaim := { program := "ytlonpgdnmngnmaagreat", sum := "5ec3d95a1571da8ea648ba915ee635f74352b0fc0955fcbd569a1e120dbf8275", func := "porism/porismlaw14.RuleDefs", spec := "ruleDefs", unfollowed := true, recurses := true, loops := true, apart := false, narrowed := true }
def RuleDefsUptoSaid : Prop := ruleDefsUptoRow.holds Tryz.pinned (OpenSpec.upto ruleDefsSpec)

/-- 'porismlaw14.RuleScopes', WHERE WHAT IT READS IS OF BULK AT MOST 1048576: true; the input reads as it did. -/
def ruleScopesUptoRow : OpenClaim := { program := "ytlonpgdnmngnmaagreat", sum := "5ec3d95a1571da8ea648ba915ee635f74352b0fc0955fcbd569a1e120dbf8275", func := "porism/porismlaw14.RuleScopes", spec := "ruleScopes", unfollowed := true, recurses := true, loops := true, apart := false, narrowed := true }
def RuleScopesUptoSaid : Prop := ruleScopesUptoRow.holds Tryz.pinned (OpenSpec.upto ruleScopesSpec)

/-- 'porismlaw14.RuleElims', WHERE WHAT IT READS IS OF BULK AT MOST 1048576: true; the input reads as it did. -/
def ruleElimsUptoRow : OpenClaim := { program := "ytlonpgdnmngnmaagreat", sum := "5ec3d95a1571da8ea648ba915ee635f74352b0fc0955fcbd569a1e120dbf8275", func := "porism/porismlaw14.RuleElims", spec := "ruleElims", unfollowed := true, recurses := true, loops := true, apart := false, narrowed := true }
def RuleElimsUptoSaid : Prop := ruleElimsUptoRow.holds Tryz.pinned (OpenSpec.upto ruleElimsSpec)

/-- 'porismlaw14.RuleDecodes', WHERE WHAT IT READS IS OF BULK AT MOST 1048576: true; the input reads as it did. -/
def ruleDecodesUptoRow : OpenClaim := { program := "ytlonpgdnmngnmaagreat", sum := "5ec3d95a1571da8ea648ba915ee635f74352b0fc0955fcbd569a1e120dbf8275", func := "porism/porismlaw14.RuleDecodes", spec := "ruleDecodes", unfollowed := true, recurses := true, loops := true, apart := false, narrowed := true }
def RuleDecodesUptoSaid : Prop := ruleDecodesUptoRow.holds Tryz.pinned (OpenSpec.upto ruleDecodesSpec)

end Rows
end Go.Proofs.YtlonpgdnmngnmaaGreat
