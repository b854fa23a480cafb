/-
  NARROWER THAN 'FOR EVERY INPUT', by the rows' own cells (each row's printed sentence says how): RuleExact: loops · RuleScopes: loops · RuleElims: loops · RuleDecodes: loops · StepParts: loops · StepSwaps: loops · StepExact: loops · StepPlaces: loops · StepAts: loops · StepFirst: loops · NormExact: loops · NormRuns: loops.
  DERIVED. THE GIVEN ROWS OF THIS SEAT. 12 by the template 'for every input the law returns true; each argument reads behind the call as it read before'; 0 by the template 'total and deterministic' (their statements: YtoknnfhgoikpiaaGreatTotals.lean).
  GIVEN WITH THE SEED: the statements are not yours to turn. If you find one false, say at which input.
  Laid BY PROGRAM, IN A SANDBOX (cutbox-rows.mjs): the forced cells as the released guide's own fill.sh prints them over the translation de0620c559ecf672… (all of the seat's roots in one cut). By AI agents, Wed Nov 11 2026. No macro, syntax, notation, axiom, sorry.
-/
import Derived.Test.YtoknnfhgoikpiaaGreatChecked
import GoSem.Claim
import GoSem.ClaimJoined
import GoSem.ClaimMapViews
import Derived.JoinedTies
import Derived.KernelRfl
namespace Go.Proofs.YtoknnfhgoikpiaaGreat
/- THE CELL 'sum', in the pinned program and in every row, IS THE sha256 OF THE DUMP (.gsa) THAT YtoknnfhgoikpiaaGreatProg.lean LOADS. Nothing in Lean hashes anything: it is a label: what it is worth is what the hold of that sum in a sandbox is worth. -/
noncomputable def Tryz.pinned : Pinned := { name := "ytoknnfhgoikpiaagreat", sum := "de0620c559ecf672d9998cad4abe0d071056492bd9f6a9f2b15ae98b2fce410e", checked := Tryz.checked }
namespace Rows
def none {H : Type} : Left H := { results := [], args := [] }

/-- 'porismlaw14.RuleExact': WHATEVER THE INPUT: true; the input reads as it did. -/
def ruleExactSpec : ChangeSpec := { name := "ruleExact", fn := fun _ => fun
  | [d1, d2] => { results := [.lit (.bool true)], args := [d1, d2] }
  | _ => none }
def ruleExactRow : OpenClaim := { program := "ytoknnfhgoikpiaagreat", sum := "de0620c559ecf672d9998cad4abe0d071056492bd9f6a9f2b15ae98b2fce410e", func := "porism/porismlaw14.RuleExact", spec := "ruleExact", unfollowed := true, recurses := true, loops := true, apart := false }
def RuleExactSaid : Prop := ruleExactRow.holds Tryz.pinned (OpenSpec.ofChange ruleExactSpec)

/-- ITS FALSE NEIGHBOUR: 'it returns false'. Refute it at one input. -/
def ruleExactWrong : ChangeSpec := { name := "ruleExact", fn := fun _ => fun
  | [d1, d2] => { results := [.lit (.bool false)], args := [d1, d2] }
  | _ => none }
def RuleExactWrongFalsely : Prop := ruleExactRow.holds Tryz.pinned (OpenSpec.ofChange ruleExactWrong)

/-- 'porismlaw14.RuleScopes': WHATEVER THE INPUT: true; the input reads as it did. -/
def ruleScopesSpec : ChangeSpec := { name := "ruleScopes", fn := fun _ => fun
  | [d1, d2, d3] => { results := [.lit (.bool true)], args := [d1, d2, d3] }
  | _ => none }
def ruleScopesRow : OpenClaim := { program := "ytoknnfhgoikpiaagreat", sum := "de0620c559ecf672d9998cad4abe0d071056492bd9f6a9f2b15ae98b2fce410e", func := "porism/porismlaw14.RuleScopes", spec := "ruleScopes", unfollowed := true, recurses := true, loops := true, apart := false }
def RuleScopesSaid : Prop := ruleScopesRow.holds Tryz.pinned (OpenSpec.ofChange ruleScopesSpec)

/-- ITS FALSE NEIGHBOUR: 'it returns false'. Refute it at one input. -/
def ruleScopesWrong : ChangeSpec := { name := "ruleScopes", fn := fun _ => fun
  | [d1, d2, d3] => { results := [.lit (.bool false)], args := [d1, d2, d3] }
  | _ => none }
def RuleScopesWrongFalsely : Prop := ruleScopesRow.holds Tryz.pinned (OpenSpec.ofChange ruleScopesWrong)

/-- 'porismlaw14.RuleElims': WHATEVER THE INPUT: true; the input reads as it did. -/
def ruleElimsSpec : ChangeSpec := { name := "ruleElims", fn := fun _ => fun
  | [d1, d2, d3, d4] => { results := [.lit (.bool true)], args := [d1, d2, d3, d4] }
  | _ => none }
def ruleElimsRow : OpenClaim := { program := "ytoknnfhgoikpiaagreat", sum := "de0620c559ecf672d9998cad4abe0d071056492bd9f6a9f2b15ae98b2fce410e", func := "porism/porismlaw14.RuleElims", spec := "ruleElims", unfollowed := true, recurses := true, loops := true, apart := false }
def RuleElimsSaid : Prop := ruleElimsRow.holds Tryz.pinned (OpenSpec.ofChange ruleElimsSpec)

/-- ITS FALSE NEIGHBOUR: 'it returns false'. Refute it at one input. -/
def ruleElimsWrong : ChangeSpec := { name := "ruleElims", fn := fun _ => fun
  | [d1, d2, d3, d4] => { results := [.lit (.bool false)], args := [d1, d2, d3, d4] }
  | _ => none }
def RuleElimsWrongFalsely : Prop := ruleElimsRow.holds Tryz.pinned (OpenSpec.ofChange ruleElimsWrong)

/-- 'porismlaw14.RuleDecodes': WHATEVER THE INPUT: true; the input reads as it did. -/
def ruleDecodesSpec : ChangeSpec := { name := "ruleDecodes", fn := fun _ => fun
  | [d1, d2, d3, d4] => { results := [.lit (.bool true)], args := [d1, d2, d3, d4] }
  | _ => none }
def ruleDecodesRow : OpenClaim := { program := "ytoknnfhgoikpiaagreat", sum := "de0620c559ecf672d9998cad4abe0d071056492bd9f6a9f2b15ae98b2fce410e", func := "porism/porismlaw14.RuleDecodes", spec := "ruleDecodes", unfollowed := true, recurses := true, loops := true, apart := false }
def RuleDecodesSaid : Prop := ruleDecodesRow.holds Tryz.pinned (OpenSpec.ofChange ruleDecodesSpec)

/-- ITS FALSE NEIGHBOUR: 'it returns false'. Refute it at one input. -/
def ruleDecodesWrong : ChangeSpec := { name := "ruleDecodes", fn := fun _ => fun
  | [d1, d2, d3, d4] => { results := [.lit (.bool false)], args := [d1, d2, d3, d4] }
  | _ => none }
def RuleDecodesWrongFalsely : Prop := ruleDecodesRow.holds Tryz.pinned (OpenSpec.ofChange ruleDecodesWrong)

/-- 'porismlaw15.StepParts': WHATEVER THE INPUT: true; the input reads as it did. -/
def stepPartsSpec : ChangeSpec := { name := "stepParts", fn := fun _ => fun
  | [d1, d2, d3, d4, d5] => { results := [.lit (.bool true)], args := [d1, d2, d3, d4, d5] }
  | _ => none }
def stepPartsRow : OpenClaim := { program := "ytoknnfhgoikpiaagreat", sum := "de0620c559ecf672d9998cad4abe0d071056492bd9f6a9f2b15ae98b2fce410e", func := "porism/porismlaw15.StepParts", spec := "stepParts", unfollowed := true, recurses := true, loops := true, apart := false }
def StepPartsSaid : Prop := stepPartsRow.holds Tryz.pinned (OpenSpec.ofChange stepPartsSpec)

/-- ITS FALSE NEIGHBOUR: 'it returns false'. Refute it at one input. -/
def stepPartsWrong : ChangeSpec := { name := "stepParts", fn := fun _ => fun
  | [d1, d2, d3, d4, d5] => { results := [.lit (.bool false)], args := [d1, d2, d3, d4, d5] }
  | _ => none }
def StepPartsWrongFalsely : Prop := stepPartsRow.holds Tryz.pinned (OpenSpec.ofChange stepPartsWrong)

/-- 'porismlaw15.StepSwaps': WHATEVER THE INPUT: true; the input reads as it did. -/
def stepSwapsSpec : ChangeSpec := { name := "stepSwaps", fn := fun _ => fun
  | [d1, d2, d3, d4] => { results := [.lit (.bool true)], args := [d1, d2, d3, d4] }
  | _ => none }
def stepSwapsRow : OpenClaim := { program := "ytoknnfhgoikpiaagreat", sum := "de0620c559ecf672d9998cad4abe0d071056492bd9f6a9f2b15ae98b2fce410e", func := "porism/porismlaw15.StepSwaps", spec := "stepSwaps", unfollowed := true, recurses := true, loops := true, apart := false }
def StepSwapsSaid : Prop := stepSwapsRow.holds Tryz.pinned (OpenSpec.ofChange stepSwapsSpec)

/-- ITS FALSE NEIGHBOUR: 'it returns false'. Refute it at one input. -/
def stepSwapsWrong : ChangeSpec := { name := "stepSwaps", fn := fun _ => fun
  | [d1, d2, d3, d4] => { results := [.lit (.bool false)], args := [d1, d2, d3, d4] }
  | _ => none }
def StepSwapsWrongFalsely : Prop := stepSwapsRow.holds Tryz.pinned (OpenSpec.ofChange stepSwapsWrong)

/-- 'porismlaw15.StepExact': WHATEVER THE INPUT: true; the input reads as it did. -/
def stepExactSpec : ChangeSpec := { name := "stepExact", fn := fun _ => fun
  | [d1, d2, d3, d4] => { results := [.lit (.bool true)], args := [d1, d2, d3, d4] }
  | _ => none }
def stepExactRow : OpenClaim := { program := "ytoknnfhgoikpiaagreat", sum := "de0620c559ecf672d9998cad4abe0d071056492bd9f6a9f2b15ae98b2fce410e", func := "porism/porismlaw15.StepExact", spec := "stepExact", unfollowed := true, recurses := true, loops := true, apart := false }
def StepExactSaid : Prop := stepExactRow.holds Tryz.pinned (OpenSpec.ofChange stepExactSpec)

/-- ITS FALSE NEIGHBOUR: 'it returns false'. Refute it at one input. -/
def stepExactWrong : ChangeSpec := { name := "stepExact", fn := fun _ => fun
  | [d1, d2, d3, d4] => { results := [.lit (.bool false)], args := [d1, d2, d3, d4] }
  | _ => none }
def StepExactWrongFalsely : Prop := stepExactRow.holds Tryz.pinned (OpenSpec.ofChange stepExactWrong)

/-- 'porismlaw15.StepPlaces': WHATEVER THE INPUT: true; the input reads as it did. -/
def stepPlacesSpec : ChangeSpec := { name := "stepPlaces", fn := fun _ => fun
  | [d1, d2, d3] => { results := [.lit (.bool true)], args := [d1, d2, d3] }
  | _ => none }
def stepPlacesRow : OpenClaim := { program := "ytoknnfhgoikpiaagreat", sum := "de0620c559ecf672d9998cad4abe0d071056492bd9f6a9f2b15ae98b2fce410e", func := "porism/porismlaw15.StepPlaces", spec := "stepPlaces", unfollowed := true, recurses := true, loops := true, apart := false }
def StepPlacesSaid : Prop := stepPlacesRow.holds Tryz.pinned (OpenSpec.ofChange stepPlacesSpec)

/-- ITS FALSE NEIGHBOUR: 'it returns false'. Refute it at one input. -/
def stepPlacesWrong : ChangeSpec := { name := "stepPlaces", fn := fun _ => fun
  | [d1, d2, d3] => { results := [.lit (.bool false)], args := [d1, d2, d3] }
  | _ => none }
def StepPlacesWrongFalsely : Prop := stepPlacesRow.holds Tryz.pinned (OpenSpec.ofChange stepPlacesWrong)

/-- 'porismlaw15.StepAts': WHATEVER THE INPUT: true; the input reads as it did. -/
def stepAtsSpec : ChangeSpec := { name := "stepAts", fn := fun _ => fun
  | [d1, d2, d3, d4] => { results := [.lit (.bool true)], args := [d1, d2, d3, d4] }
  | _ => none }
def stepAtsRow : OpenClaim := { program := "ytoknnfhgoikpiaagreat", sum := "de0620c559ecf672d9998cad4abe0d071056492bd9f6a9f2b15ae98b2fce410e", func := "porism/porismlaw15.StepAts", spec := "stepAts", unfollowed := true, recurses := true, loops := true, apart := false }
def StepAtsSaid : Prop := stepAtsRow.holds Tryz.pinned (OpenSpec.ofChange stepAtsSpec)

/-- ITS FALSE NEIGHBOUR: 'it returns false'. Refute it at one input. -/
def stepAtsWrong : ChangeSpec := { name := "stepAts", fn := fun _ => fun
  | [d1, d2, d3, d4] => { results := [.lit (.bool false)], args := [d1, d2, d3, d4] }
  | _ => none }
def StepAtsWrongFalsely : Prop := stepAtsRow.holds Tryz.pinned (OpenSpec.ofChange stepAtsWrong)

/-- 'porismlaw15.StepFirst': WHATEVER THE INPUT: true; the input reads as it did. -/
def stepFirstSpec : ChangeSpec := { name := "stepFirst", fn := fun _ => fun
  | [d1, d2] => { results := [.lit (.bool true)], args := [d1, d2] }
  | _ => none }
def stepFirstRow : OpenClaim := { program := "ytoknnfhgoikpiaagreat", sum := "de0620c559ecf672d9998cad4abe0d071056492bd9f6a9f2b15ae98b2fce410e", func := "porism/porismlaw15.StepFirst", spec := "stepFirst", unfollowed := true, recurses := true, loops := true, apart := false }
def StepFirstSaid : Prop := stepFirstRow.holds Tryz.pinned (OpenSpec.ofChange stepFirstSpec)

/-- ITS FALSE NEIGHBOUR: 'it returns false'. Refute it at one input. -/
def stepFirstWrong : ChangeSpec := { name := "stepFirst", fn := fun _ => fun
  | [d1, d2] => { results := [.lit (.bool false)], args := [d1, d2] }
  | _ => none }
def StepFirstWrongFalsely : Prop := stepFirstRow.holds Tryz.pinned (OpenSpec.ofChange stepFirstWrong)

/-- 'porismlaw16.NormExact': WHATEVER THE INPUT: true; the input reads as it did. -/
def normExactSpec : ChangeSpec := { name := "normExact", fn := fun _ => fun
  | [d1, d2, d3, d4] => { results := [.lit (.bool true)], args := [d1, d2, d3, d4] }
  | _ => none }
def normExactRow : OpenClaim := { program := "ytoknnfhgoikpiaagreat", sum := "de0620c559ecf672d9998cad4abe0d071056492bd9f6a9f2b15ae98b2fce410e", func := "porism/porismlaw16.NormExact", spec := "normExact", unfollowed := true, recurses := true, loops := true, apart := false }
def NormExactSaid : Prop := normExactRow.holds Tryz.pinned (OpenSpec.ofChange normExactSpec)

/-- ITS FALSE NEIGHBOUR: 'it returns false'. Refute it at one input. -/
def normExactWrong : ChangeSpec := { name := "normExact", fn := fun _ => fun
  | [d1, d2, d3, d4] => { results := [.lit (.bool false)], args := [d1, d2, d3, d4] }
  | _ => none }
def NormExactWrongFalsely : Prop := normExactRow.holds Tryz.pinned (OpenSpec.ofChange normExactWrong)

/-- 'porismlaw16.NormRuns': WHATEVER THE INPUT: true; the input reads as it did. -/
def normRunsSpec : ChangeSpec := { name := "normRuns", fn := fun _ => fun
  | [d1, d2, d3, d4] => { results := [.lit (.bool true)], args := [d1, d2, d3, d4] }
  | _ => none }
def normRunsRow : OpenClaim := { program := "ytoknnfhgoikpiaagreat", sum := "de0620c559ecf672d9998cad4abe0d071056492bd9f6a9f2b15ae98b2fce410e", func := "porism/porismlaw16.NormRuns", spec := "normRuns", unfollowed := true, recurses := true, loops := true, apart := false }
def NormRunsSaid : Prop := normRunsRow.holds Tryz.pinned (OpenSpec.ofChange normRunsSpec)

/-- ITS FALSE NEIGHBOUR: 'it returns false'. Refute it at one input. -/
def normRunsWrong : ChangeSpec := { name := "normRuns", fn := fun _ => fun
  | [d1, d2, d3, d4] => { results := [.lit (.bool false)], args := [d1, d2, d3, d4] }
  | _ => none }
def NormRunsWrongFalsely : Prop := normRunsRow.holds Tryz.pinned (OpenSpec.ofChange normRunsWrong)

/- THE SECOND FORM. 'bulk': how many values and letters a reading holds, each counted each time it is reached (what is shared counts as often as it is met; a slice's spare places count too). A statement '..UptoSaid' is the law's where the arguments, and the package variables that the reading takes, are together of bulk at most 1048576: NARROWER than '..Said'. Prove '..Said' where nothing that the law and all that it calls make is longer than what came in: it says more and counts as full. Else prove '..UptoSaid'. A law counts once. -/
mutual
def uptoBulk {H : Type} : DataW H → Nat
  | .lit (.string bytes) => bytes.length + 1
  | .lit _ => 1
  | .nil => 1
  | .ptr d => uptoBulk d + 1
  | .slice elems spare => uptoBulkAll elems + uptoBulkAll spare + 1
  | .agg parts => uptoBulkAll parts + 1
  | .iface _ d => uptoBulk d + 1
  | .map entries => uptoBulkEntries entries + 1
  | .held _ => 1
def uptoBulkAll {H : Type} : List (DataW H) → Nat
  | [] => 0
  | d :: r => uptoBulk d + uptoBulkAll r
def uptoBulkEntries {H : Type} : List (Lit × DataW H) → Nat
  | [] => 0
  | x :: r => uptoBulkEntry x + uptoBulkEntries r
def uptoBulkEntry {H : Type} : Lit × DataW H → Nat
  | (.string bytes, d) => bytes.length + uptoBulk d + 1
  | (_, d) => uptoBulk d + 1
 end
def uptoSmall : (H : Type) → List (DataW H) → Bool := fun _ ds => decide (uptoBulkAll ds ≤ 1048576)
def OpenSpec.upto (s : _root_.Go.ChangeSpec) : _root_.Go.OpenSpec := { _root_.Go.OpenSpec.ofChange s with cond := some uptoSmall }

/-- 'porismlaw14.RuleExact', WHERE WHAT IT READS IS OF BULK AT MOST 1048576: true; the input reads as it did. -/
def ruleExactUptoRow : OpenClaim := { program := "ytoknnfhgoikpiaagreat", sum := "de0620c559ecf672d9998cad4abe0d071056492bd9f6a9f2b15ae98b2fce410e", func := "porism/porismlaw14.RuleExact", spec := "ruleExact", unfollowed := true, recurses := true, loops := true, apart := false, narrowed := true }
def RuleExactUptoSaid : Prop := ruleExactUptoRow.holds Tryz.pinned (OpenSpec.upto ruleExactSpec)

/-- 'porismlaw14.RuleScopes', WHERE WHAT IT READS IS OF BULK AT MOST 1048576: true; the input reads as it did. -/
def ruleScopesUptoRow : OpenClaim := { program := "ytoknnfhgoikpiaagreat", sum := "de0620c559ecf672d9998cad4abe0d071056492bd9f6a9f2b15ae98b2fce410e", func := "porism/porismlaw14.RuleScopes", spec := "ruleScopes", unfollowed := true, recurses := true, loops := true, apart := false, narrowed := true }
def RuleScopesUptoSaid : Prop := ruleScopesUptoRow.holds Tryz.pinned (OpenSpec.upto ruleScopesSpec)

/-- 'porismlaw14.RuleElims', WHERE WHAT IT READS IS OF BULK AT MOST 1048576: true; the input reads as it did. -/
def ruleElimsUptoRow : OpenClaim := { program := "ytoknnfhgoikpiaagreat", sum := "de0620c559ecf672d9998cad4abe0d071056492bd9f6a9f2b15ae98b2fce410e", func := "porism/porismlaw14.RuleElims", spec := "ruleElims", unfollowed := true, recurses := true, loops := true, apart := false, narrowed := true }
def RuleElimsUptoSaid : Prop := ruleElimsUptoRow.holds Tryz.pinned (OpenSpec.upto ruleElimsSpec)

/-- 'porismlaw14.RuleDecodes', WHERE WHAT IT READS IS OF BULK AT MOST 1048576: true; the input reads as it did. -/
def ruleDecodesUptoRow : OpenClaim := { program := "ytoknnfhgoikpiaagreat", sum := "de0620c559ecf672d9998cad4abe0d071056492bd9f6a9f2b15ae98b2fce410e", func := "porism/porismlaw14.RuleDecodes", spec := "ruleDecodes", unfollowed := true, recurses := true, loops := true, apart := false, narrowed := true }
def RuleDecodesUptoSaid : Prop := ruleDecodesUptoRow.holds Tryz.pinned (OpenSpec.upto ruleDecodesSpec)

/-- 'porismlaw15.StepParts', WHERE WHAT IT READS IS OF BULK AT MOST 1048576: true; the input reads as it did. -/
def stepPartsUptoRow : OpenClaim := { program := "ytoknnfhgoikpiaagreat", sum := "de0620c559ecf672d9998cad4abe0d071056492bd9f6a9f2b15ae98b2fce410e", func := "porism/porismlaw15.StepParts", spec := "stepParts", unfollowed := true, recurses := true, loops := true, apart := false, narrowed := true }
def StepPartsUptoSaid : Prop := stepPartsUptoRow.holds Tryz.pinned (OpenSpec.upto stepPartsSpec)

/-- 'porismlaw15.StepSwaps', WHERE WHAT IT READS IS OF BULK AT MOST 1048576: true; the input reads as it did. -/
def stepSwapsUptoRow : OpenClaim := { program := "ytoknnfhgoikpiaagreat", sum := "de0620c559ecf672d9998cad4abe0d071056492bd9f6a9f2b15ae98b2fce410e", func := "porism/porismlaw15.StepSwaps", spec := "stepSwaps", unfollowed := true, recurses := true, loops := true, apart := false, narrowed := true }
def StepSwapsUptoSaid : Prop := stepSwapsUptoRow.holds Tryz.pinned (OpenSpec.upto stepSwapsSpec)

/-- 'porismlaw15.StepExact', WHERE WHAT IT READS IS OF BULK AT MOST 1048576: true; the input reads as it did. -/
def stepExactUptoRow : OpenClaim := { program := "ytoknnfhgoikpiaagreat", sum := "de0620c559ecf672d9998cad4abe0d071056492bd9f6a9f2b15ae98b2fce410e", func := "porism/porismlaw15.StepExact", spec := "stepExact", unfollowed := true, recurses := true, loops := true, apart := false, narrowed := true }
def StepExactUptoSaid : Prop := stepExactUptoRow.holds Tryz.pinned (OpenSpec.upto stepExactSpec)

/-- 'porismlaw15.StepPlaces', WHERE WHAT IT READS IS OF BULK AT MOST 1048576: true; the input reads as it did. -/
def stepPlacesUptoRow : OpenClaim := { program := "ytoknnfhgoikpiaagreat", sum := "de0620c559ecf672d9998cad4abe0d071056492bd9f6a9f2b15ae98b2fce410e", func := "porism/porismlaw15.StepPlaces", spec := "stepPlaces", unfollowed := true, recurses := true, loops := true, apart := false, narrowed := true }
def StepPlacesUptoSaid : Prop := stepPlacesUptoRow.holds Tryz.pinned (OpenSpec.upto stepPlacesSpec)

/-- 'porismlaw15.StepAts', WHERE WHAT IT READS IS OF BULK AT MOST 1048576: true; the input reads as it did. -/
def stepAtsUptoRow : OpenClaim := { program := "ytoknnfhgoikpiaagreat", sum := "de0620c559ecf672d9998cad4abe0d071056492bd9f6a9f2b15ae98b2fce410e", func := "porism/porismlaw15.StepAts", spec := "stepAts", unfollowed := true, recurses := true, loops := true, apart := false, narrowed := true }
def StepAtsUptoSaid : Prop := stepAtsUptoRow.holds Tryz.pinned (OpenSpec.upto stepAtsSpec)

/-- 'porismlaw15.StepFirst', WHERE WHAT IT READS IS OF BULK AT MOST 1048576: true; the input reads as it did. -/
def stepFirstUptoRow : OpenClaim := { program := "ytoknnfhgoikpiaagreat", sum := "de0620c559ecf672d9998cad4abe0d071056492bd9f6a9f2b15ae98b2fce410e", func := "porism/porismlaw15.StepFirst", spec := "stepFirst", unfollowed := true, recurses := true, loops := true, apart := false, narrowed := true }
def StepFirstUptoSaid : Prop := stepFirstUptoRow.holds Tryz.pinned (OpenSpec.upto stepFirstSpec)

/-- 'porismlaw16.NormExact', WHERE WHAT IT READS IS OF BULK AT MOST 1048576: true; the input reads as it did. -/
def normExactUptoRow : OpenClaim := { program := "ytoknnfhgoikpiaagreat", sum := "de0620c559ecf672d9998cad4abe0d071056492bd9f6a9f2b15ae98b2fce410e", func := "porism/porismlaw16.NormExact", spec := "normExact", unfollowed := true, recurses := true, loops := true, apart := false, narrowed := true }
def NormExactUptoSaid : Prop := normExactUptoRow.holds Tryz.pinned (OpenSpec.upto normExactSpec)

/-- 'porismlaw16.NormRuns', WHERE WHAT IT READS IS OF BULK AT MOST 1048576: true; the input reads as it did. -/
def normRunsUptoRow : OpenClaim := { program := "ytoknnfhgoikpiaagreat", sum := "de0620c559ecf672d9998cad4abe0d071056492bd9f6a9f2b15ae98b2fce410e", func := "porism/porismlaw16.NormRuns", spec := "normRuns", unfollowed := true, recurses := true, loops := true, apart := false, narrowed := true }
def NormRunsUptoSaid : Prop := normRunsUptoRow.holds Tryz.pinned (OpenSpec.upto normRunsSpec)

end Rows
end Go.Proofs.YtoknnfhgoikpiaaGreat
