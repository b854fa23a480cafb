/-
  NARROWER THAN 'FOR EVERY INPUT', by the rows' own cells (each row's printed sentence says how): NormParts: loops · NormDefs: loops · NormFew: loops · NormSpines: loops · NormSteps: loops · InferFuel: loops · InferVars: loops · InferNone: loops · InferParts: loops · InferIds: loops · InferTypes: loops · InferNormal: loops.
  DERIVED. THE GIVEN ROWS OF THIS SEAT. 12 by the template 'for every input the law returns true; each argument reads behind the call as it read before'; 0 by the template 'total and deterministic' (their statements: YtokfbblhjpfjkaaGreatTotals.lean).
  GIVEN WITH THE SEED: the statements are not yours to turn. If you find one false, say at which input.
  Laid BY PROGRAM, IN A SANDBOX (cutbox-rows.mjs): the forced cells as the released guide's own fill.sh prints them over the translation f8f4863240566907… (all of the seat's roots in one cut). By AI agents, Wed Nov 11 2026. No macro, syntax, notation, axiom, sorry.
-/
import Derived.Test.YtokfbblhjpfjkaaGreatChecked
import GoSem.Claim
import GoSem.ClaimJoined
import GoSem.ClaimMapViews
import Derived.JoinedTies
import Derived.KernelRfl
namespace Go.Proofs.YtokfbblhjpfjkaaGreat
/- THE CELL 'sum', in the pinned program and in every row, IS THE sha256 OF THE DUMP (.gsa) THAT YtokfbblhjpfjkaaGreatProg.lean LOADS. Nothing in Lean hashes anything: it is a label: what it is worth is what the hold of that sum in a sandbox is worth. -/
noncomputable def Tryz.pinned : Pinned := { name := "ytokfbblhjpfjkaagreat", sum := "f8f4863240566907aada19130465e6e953865d1f8c1ba5615ba81be22d482bf4", checked := Tryz.checked }
namespace Rows
def none {H : Type} : Left H := { results := [], args := [] }

/-- 'porismlaw16.NormParts': WHATEVER THE INPUT: true; the input reads as it did. -/
def normPartsSpec : ChangeSpec := { name := "normParts", fn := fun _ => fun
  | [d1, d2, d3, d4] => { results := [.lit (.bool true)], args := [d1, d2, d3, d4] }
  | _ => none }
def normPartsRow : OpenClaim := { program := "ytokfbblhjpfjkaagreat", sum := "f8f4863240566907aada19130465e6e953865d1f8c1ba5615ba81be22d482bf4", func := "porism/porismlaw16.NormParts", spec := "normParts", unfollowed := true, recurses := true, loops := true, apart := false }
def NormPartsSaid : Prop := normPartsRow.holds Tryz.pinned (OpenSpec.ofChange normPartsSpec)

/-- ITS FALSE NEIGHBOUR: 'it returns false'. Refute it at one input. -/
def normPartsWrong : ChangeSpec := { name := "normParts", fn := fun _ => fun
  | [d1, d2, d3, d4] => { results := [.lit (.bool false)], args := [d1, d2, d3, d4] }
  | _ => none }
def NormPartsWrongFalsely : Prop := normPartsRow.holds Tryz.pinned (OpenSpec.ofChange normPartsWrong)

/-- 'porismlaw16.NormDefs': WHATEVER THE INPUT: true; the input reads as it did. -/
def normDefsSpec : ChangeSpec := { name := "normDefs", fn := fun _ => fun
  | [d1, d2] => { results := [.lit (.bool true)], args := [d1, d2] }
  | _ => none }
def normDefsRow : OpenClaim := { program := "ytokfbblhjpfjkaagreat", sum := "f8f4863240566907aada19130465e6e953865d1f8c1ba5615ba81be22d482bf4", func := "porism/porismlaw16.NormDefs", spec := "normDefs", unfollowed := true, recurses := true, loops := true, apart := false }
def NormDefsSaid : Prop := normDefsRow.holds Tryz.pinned (OpenSpec.ofChange normDefsSpec)

/-- ITS FALSE NEIGHBOUR: 'it returns false'. Refute it at one input. -/
def normDefsWrong : ChangeSpec := { name := "normDefs", fn := fun _ => fun
  | [d1, d2] => { results := [.lit (.bool false)], args := [d1, d2] }
  | _ => none }
def NormDefsWrongFalsely : Prop := normDefsRow.holds Tryz.pinned (OpenSpec.ofChange normDefsWrong)

/-- 'porismlaw16.NormFew': WHATEVER THE INPUT: true; the input reads as it did. -/
def normFewSpec : ChangeSpec := { name := "normFew", fn := fun _ => fun
  | [d1, d2] => { results := [.lit (.bool true)], args := [d1, d2] }
  | _ => none }
def normFewRow : OpenClaim := { program := "ytokfbblhjpfjkaagreat", sum := "f8f4863240566907aada19130465e6e953865d1f8c1ba5615ba81be22d482bf4", func := "porism/porismlaw16.NormFew", spec := "normFew", unfollowed := true, recurses := true, loops := true, apart := false }
def NormFewSaid : Prop := normFewRow.holds Tryz.pinned (OpenSpec.ofChange normFewSpec)

/-- ITS FALSE NEIGHBOUR: 'it returns false'. Refute it at one input. -/
def normFewWrong : ChangeSpec := { name := "normFew", fn := fun _ => fun
  | [d1, d2] => { results := [.lit (.bool false)], args := [d1, d2] }
  | _ => none }
def NormFewWrongFalsely : Prop := normFewRow.holds Tryz.pinned (OpenSpec.ofChange normFewWrong)

/-- 'porismlaw16.NormSpines': WHATEVER THE INPUT: true; the input reads as it did. -/
def normSpinesSpec : ChangeSpec := { name := "normSpines", fn := fun _ => fun
  | [d1, d2, d3, d4] => { results := [.lit (.bool true)], args := [d1, d2, d3, d4] }
  | _ => none }
def normSpinesRow : OpenClaim := { program := "ytokfbblhjpfjkaagreat", sum := "f8f4863240566907aada19130465e6e953865d1f8c1ba5615ba81be22d482bf4", func := "porism/porismlaw16.NormSpines", spec := "normSpines", unfollowed := true, recurses := true, loops := true, apart := false }
def NormSpinesSaid : Prop := normSpinesRow.holds Tryz.pinned (OpenSpec.ofChange normSpinesSpec)

/-- ITS FALSE NEIGHBOUR: 'it returns false'. Refute it at one input. -/
def normSpinesWrong : ChangeSpec := { name := "normSpines", fn := fun _ => fun
  | [d1, d2, d3, d4] => { results := [.lit (.bool false)], args := [d1, d2, d3, d4] }
  | _ => none }
def NormSpinesWrongFalsely : Prop := normSpinesRow.holds Tryz.pinned (OpenSpec.ofChange normSpinesWrong)

/-- 'porismlaw16.NormSteps': WHATEVER THE INPUT: true; the input reads as it did. -/
def normStepsSpec : ChangeSpec := { name := "normSteps", fn := fun _ => fun
  | [d1, d2, d3] => { results := [.lit (.bool true)], args := [d1, d2, d3] }
  | _ => none }
def normStepsRow : OpenClaim := { program := "ytokfbblhjpfjkaagreat", sum := "f8f4863240566907aada19130465e6e953865d1f8c1ba5615ba81be22d482bf4", func := "porism/porismlaw16.NormSteps", spec := "normSteps", unfollowed := true, recurses := true, loops := true, apart := false }
def NormStepsSaid : Prop := normStepsRow.holds Tryz.pinned (OpenSpec.ofChange normStepsSpec)

/-- ITS FALSE NEIGHBOUR: 'it returns false'. Refute it at one input. -/
def normStepsWrong : ChangeSpec := { name := "normSteps", fn := fun _ => fun
  | [d1, d2, d3] => { results := [.lit (.bool false)], args := [d1, d2, d3] }
  | _ => none }
def NormStepsWrongFalsely : Prop := normStepsRow.holds Tryz.pinned (OpenSpec.ofChange normStepsWrong)

/-- 'porismlaw17.InferFuel': WHATEVER THE INPUT: true; the input reads as it did. -/
def inferFuelSpec : ChangeSpec := { name := "inferFuel", fn := fun _ => fun
  | [d1, d2, d3, d4, d5] => { results := [.lit (.bool true)], args := [d1, d2, d3, d4, d5] }
  | _ => none }
def inferFuelRow : OpenClaim := { program := "ytokfbblhjpfjkaagreat", sum := "f8f4863240566907aada19130465e6e953865d1f8c1ba5615ba81be22d482bf4", func := "porism/porismlaw17.InferFuel", spec := "inferFuel", unfollowed := true, recurses := true, loops := true, apart := false }
def InferFuelSaid : Prop := inferFuelRow.holds Tryz.pinned (OpenSpec.ofChange inferFuelSpec)

/-- ITS FALSE NEIGHBOUR: 'it returns false'. Refute it at one input. -/
def inferFuelWrong : ChangeSpec := { name := "inferFuel", fn := fun _ => fun
  | [d1, d2, d3, d4, d5] => { results := [.lit (.bool false)], args := [d1, d2, d3, d4, d5] }
  | _ => none }
def InferFuelWrongFalsely : Prop := inferFuelRow.holds Tryz.pinned (OpenSpec.ofChange inferFuelWrong)

/-- 'porismlaw17.InferVars': WHATEVER THE INPUT: true; the input reads as it did. -/
def inferVarsSpec : ChangeSpec := { name := "inferVars", fn := fun _ => fun
  | [d1, d2, d3] => { results := [.lit (.bool true)], args := [d1, d2, d3] }
  | _ => none }
def inferVarsRow : OpenClaim := { program := "ytokfbblhjpfjkaagreat", sum := "f8f4863240566907aada19130465e6e953865d1f8c1ba5615ba81be22d482bf4", func := "porism/porismlaw17.InferVars", spec := "inferVars", unfollowed := true, recurses := true, loops := true, apart := false }
def InferVarsSaid : Prop := inferVarsRow.holds Tryz.pinned (OpenSpec.ofChange inferVarsSpec)

/-- ITS FALSE NEIGHBOUR: 'it returns false'. Refute it at one input. -/
def inferVarsWrong : ChangeSpec := { name := "inferVars", fn := fun _ => fun
  | [d1, d2, d3] => { results := [.lit (.bool false)], args := [d1, d2, d3] }
  | _ => none }
def InferVarsWrongFalsely : Prop := inferVarsRow.holds Tryz.pinned (OpenSpec.ofChange inferVarsWrong)

/-- 'porismlaw17.InferNone': WHATEVER THE INPUT: true; the input reads as it did. -/
def inferNoneSpec : ChangeSpec := { name := "inferNone", fn := fun _ => fun
  | [d1, d2, d3, d4] => { results := [.lit (.bool true)], args := [d1, d2, d3, d4] }
  | _ => none }
def inferNoneRow : OpenClaim := { program := "ytokfbblhjpfjkaagreat", sum := "f8f4863240566907aada19130465e6e953865d1f8c1ba5615ba81be22d482bf4", func := "porism/porismlaw17.InferNone", spec := "inferNone", unfollowed := true, recurses := true, loops := true, apart := false }
def InferNoneSaid : Prop := inferNoneRow.holds Tryz.pinned (OpenSpec.ofChange inferNoneSpec)

/-- ITS FALSE NEIGHBOUR: 'it returns false'. Refute it at one input. -/
def inferNoneWrong : ChangeSpec := { name := "inferNone", fn := fun _ => fun
  | [d1, d2, d3, d4] => { results := [.lit (.bool false)], args := [d1, d2, d3, d4] }
  | _ => none }
def InferNoneWrongFalsely : Prop := inferNoneRow.holds Tryz.pinned (OpenSpec.ofChange inferNoneWrong)

/-- 'porismlaw17.InferParts': WHATEVER THE INPUT: true; the input reads as it did. -/
def inferPartsSpec : ChangeSpec := { name := "inferParts", fn := fun _ => fun
  | [d1, d2, d3, d4, d5, d6] => { results := [.lit (.bool true)], args := [d1, d2, d3, d4, d5, d6] }
  | _ => none }
def inferPartsRow : OpenClaim := { program := "ytokfbblhjpfjkaagreat", sum := "f8f4863240566907aada19130465e6e953865d1f8c1ba5615ba81be22d482bf4", func := "porism/porismlaw17.InferParts", spec := "inferParts", unfollowed := true, recurses := true, loops := true, apart := false }
def InferPartsSaid : Prop := inferPartsRow.holds Tryz.pinned (OpenSpec.ofChange inferPartsSpec)

/-- ITS FALSE NEIGHBOUR: 'it returns false'. Refute it at one input. -/
def inferPartsWrong : ChangeSpec := { name := "inferParts", fn := fun _ => fun
  | [d1, d2, d3, d4, d5, d6] => { results := [.lit (.bool false)], args := [d1, d2, d3, d4, d5, d6] }
  | _ => none }
def InferPartsWrongFalsely : Prop := inferPartsRow.holds Tryz.pinned (OpenSpec.ofChange inferPartsWrong)

/-- 'porismlaw17.InferIds': WHATEVER THE INPUT: true; the input reads as it did. -/
def inferIdsSpec : ChangeSpec := { name := "inferIds", fn := fun _ => fun
  | [d1, d2, d3, d4, d5] => { results := [.lit (.bool true)], args := [d1, d2, d3, d4, d5] }
  | _ => none }
def inferIdsRow : OpenClaim := { program := "ytokfbblhjpfjkaagreat", sum := "f8f4863240566907aada19130465e6e953865d1f8c1ba5615ba81be22d482bf4", func := "porism/porismlaw17.InferIds", spec := "inferIds", unfollowed := true, recurses := true, loops := true, apart := false }
def InferIdsSaid : Prop := inferIdsRow.holds Tryz.pinned (OpenSpec.ofChange inferIdsSpec)

/-- ITS FALSE NEIGHBOUR: 'it returns false'. Refute it at one input. -/
def inferIdsWrong : ChangeSpec := { name := "inferIds", fn := fun _ => fun
  | [d1, d2, d3, d4, d5] => { results := [.lit (.bool false)], args := [d1, d2, d3, d4, d5] }
  | _ => none }
def InferIdsWrongFalsely : Prop := inferIdsRow.holds Tryz.pinned (OpenSpec.ofChange inferIdsWrong)

/-- 'porismlaw17.InferTypes': WHATEVER THE INPUT: true; the input reads as it did. -/
def inferTypesSpec : ChangeSpec := { name := "inferTypes", fn := fun _ => fun
  | [d1, d2, d3, d4, d5] => { results := [.lit (.bool true)], args := [d1, d2, d3, d4, d5] }
  | _ => none }
def inferTypesRow : OpenClaim := { program := "ytokfbblhjpfjkaagreat", sum := "f8f4863240566907aada19130465e6e953865d1f8c1ba5615ba81be22d482bf4", func := "porism/porismlaw17.InferTypes", spec := "inferTypes", unfollowed := true, recurses := true, loops := true, apart := false }
def InferTypesSaid : Prop := inferTypesRow.holds Tryz.pinned (OpenSpec.ofChange inferTypesSpec)

/-- ITS FALSE NEIGHBOUR: 'it returns false'. Refute it at one input. -/
def inferTypesWrong : ChangeSpec := { name := "inferTypes", fn := fun _ => fun
  | [d1, d2, d3, d4, d5] => { results := [.lit (.bool false)], args := [d1, d2, d3, d4, d5] }
  | _ => none }
def InferTypesWrongFalsely : Prop := inferTypesRow.holds Tryz.pinned (OpenSpec.ofChange inferTypesWrong)

/-- 'porismlaw17.InferNormal': WHATEVER THE INPUT: true; the input reads as it did. -/
def inferNormalSpec : ChangeSpec := { name := "inferNormal", fn := fun _ => fun
  | [d1, d2, d3, d4] => { results := [.lit (.bool true)], args := [d1, d2, d3, d4] }
  | _ => none }
def inferNormalRow : OpenClaim := { program := "ytokfbblhjpfjkaagreat", sum := "f8f4863240566907aada19130465e6e953865d1f8c1ba5615ba81be22d482bf4", func := "porism/porismlaw17.InferNormal", spec := "inferNormal", unfollowed := true, recurses := true, loops := true, apart := false }
def InferNormalSaid : Prop := inferNormalRow.holds Tryz.pinned (OpenSpec.ofChange inferNormalSpec)

/-- ITS FALSE NEIGHBOUR: 'it returns false'. Refute it at one input. -/
def inferNormalWrong : ChangeSpec := { name := "inferNormal", fn := fun _ => fun
  | [d1, d2, d3, d4] => { results := [.lit (.bool false)], args := [d1, d2, d3, d4] }
  | _ => none }
def InferNormalWrongFalsely : Prop := inferNormalRow.holds Tryz.pinned (OpenSpec.ofChange inferNormalWrong)

/- THE SECOND FORM. 'bulk': how many values and letters a reading holds, each counted each time it is reached (what is shared counts as often as it is met; a slice's spare places count too). A statement '..UptoSaid' is the law's where the arguments, and the package variables that the reading takes, are together of bulk at most 1048576: NARROWER than '..Said'. Prove '..Said' where nothing that the law and all that it calls make is longer than what came in: it says more and counts as full. Else prove '..UptoSaid'. A law counts once. -/
mutual
def uptoBulk {H : Type} : DataW H → Nat
  | .lit (.string bytes) => bytes.length + 1
  | .lit _ => 1
  | .nil => 1
  | .ptr d => uptoBulk d + 1
  | .slice elems spare => uptoBulkAll elems + uptoBulkAll spare + 1
  | .agg parts => uptoBulkAll parts + 1
  | .iface _ d => uptoBulk d + 1
  | .map entries => uptoBulkEntries entries + 1
  | .held _ => 1
def uptoBulkAll {H : Type} : List (DataW H) → Nat
  | [] => 0
  | d :: r => uptoBulk d + uptoBulkAll r
def uptoBulkEntries {H : Type} : List (Lit × DataW H) → Nat
  | [] => 0
  | x :: r => uptoBulkEntry x + uptoBulkEntries r
def uptoBulkEntry {H : Type} : Lit × DataW H → Nat
  | (.string bytes, d) => bytes.length + uptoBulk d + 1
  | (_, d) => uptoBulk d + 1
 end
def uptoSmall : (H : Type) → List (DataW H) → Bool := fun _ ds => decide (uptoBulkAll ds ≤ 1048576)
def OpenSpec.upto (s : _root_.Go.ChangeSpec) : _root_.Go.OpenSpec := { _root_.Go.OpenSpec.ofChange s with cond := some uptoSmall }

/-- 'porismlaw16.NormParts', WHERE WHAT IT READS IS OF BULK AT MOST 1048576: true; the input reads as it did. -/
def normPartsUptoRow : OpenClaim := { program := "ytokfbblhjpfjkaagreat", sum := "f8f4863240566907aada19130465e6e953865d1f8c1ba5615ba81be22d482bf4", func := "porism/porismlaw16.NormParts", spec := "normParts", unfollowed := true, recurses := true, loops := true, apart := false, narrowed := true }
def NormPartsUptoSaid : Prop := normPartsUptoRow.holds Tryz.pinned (OpenSpec.upto normPartsSpec)

/-- 'porismlaw16.NormDefs', WHERE WHAT IT READS IS OF BULK AT MOST 1048576: true; the input reads as it did. -/
def normDefsUptoRow : OpenClaim := { program := "ytokfbblhjpfjkaagreat", sum := "f8f4863240566907aada19130465e6e953865d1f8c1ba5615ba81be22d482bf4", func := "porism/porismlaw16.NormDefs", spec := "normDefs", unfollowed := true, recurses := true, loops := true, apart := false, narrowed := true }
def NormDefsUptoSaid : Prop := normDefsUptoRow.holds Tryz.pinned (OpenSpec.upto normDefsSpec)

/-- 'porismlaw16.NormFew', WHERE WHAT IT READS IS OF BULK AT MOST 1048576: true; the input reads as it did. -/
def normFewUptoRow : OpenClaim := { program := "ytokfbblhjpfjkaagreat", sum := "f8f4863240566907aada19130465e6e953865d1f8c1ba5615ba81be22d482bf4", func := "porism/porismlaw16.NormFew", spec := "normFew", unfollowed := true, recurses := true, loops := true, apart := false, narrowed := true }
def NormFewUptoSaid : Prop := normFewUptoRow.holds Tryz.pinned (OpenSpec.upto normFewSpec)

/-- 'porismlaw16.NormSpines', WHERE WHAT IT READS IS OF BULK AT MOST 1048576: true; the input reads as it did. -/
def normSpinesUptoRow : OpenClaim := { program := "ytokfbblhjpfjkaagreat", sum := "f8f4863240566907aada19130465e6e953865d1f8c1ba5615ba81be22d482bf4", func := "porism/porismlaw16.NormSpines", spec := "normSpines", unfollowed := true, recurses := true, loops := true, apart := false, narrowed := true }
def NormSpinesUptoSaid : Prop := normSpinesUptoRow.holds Tryz.pinned (OpenSpec.upto normSpinesSpec)

/-- 'porismlaw16.NormSteps', WHERE WHAT IT READS IS OF BULK AT MOST 1048576: true; the input reads as it did. -/
def normStepsUptoRow : OpenClaim := { program := "ytokfbblhjpfjkaagreat", sum := "f8f4863240566907aada19130465e6e953865d1f8c1ba5615ba81be22d482bf4", func := "porism/porismlaw16.NormSteps", spec := "normSteps", unfollowed := true, recurses := true, loops := true, apart := false, narrowed := true }
def NormStepsUptoSaid : Prop := normStepsUptoRow.holds Tryz.pinned (OpenSpec.upto normStepsSpec)

/-- 'porismlaw17.InferFuel', WHERE WHAT IT READS IS OF BULK AT MOST 1048576: true; the input reads as it did. -/
def inferFuelUptoRow : OpenClaim := { program := "ytokfbblhjpfjkaagreat", sum := "f8f4863240566907aada19130465e6e953865d1f8c1ba5615ba81be22d482bf4", func := "porism/porismlaw17.InferFuel", spec := "inferFuel", unfollowed := true, recurses := true, loops := true, apart := false, narrowed := true }
def InferFuelUptoSaid : Prop := inferFuelUptoRow.holds Tryz.pinned (OpenSpec.upto inferFuelSpec)

/-- 'porismlaw17.InferVars', WHERE WHAT IT READS IS OF BULK AT MOST 1048576: true; the input reads as it did. -/
def inferVarsUptoRow : OpenClaim := { program := "ytokfbblhjpfjkaagreat", sum := "f8f4863240566907aada19130465e6e953865d1f8c1ba5615ba81be22d482bf4", func := "porism/porismlaw17.InferVars", spec := "inferVars", unfollowed := true, recurses := true, loops := true, apart := false, narrowed := true }
def InferVarsUptoSaid : Prop := inferVarsUptoRow.holds Tryz.pinned (OpenSpec.upto inferVarsSpec)

/-- 'porismlaw17.InferNone', WHERE WHAT IT READS IS OF BULK AT MOST 1048576: true; the input reads as it did. -/
def inferNoneUptoRow : OpenClaim := { program := "ytokfbblhjpfjkaagreat", sum := "f8f4863240566907aada19130465e6e953865d1f8c1ba5615ba81be22d482bf4", func := "porism/porismlaw17.InferNone", spec := "inferNone", unfollowed := true, recurses := true, loops := true, apart := false, narrowed := true }
def InferNoneUptoSaid : Prop := inferNoneUptoRow.holds Tryz.pinned (OpenSpec.upto inferNoneSpec)

/-- 'porismlaw17.InferParts', WHERE WHAT IT READS IS OF BULK AT MOST 1048576: true; the input reads as it did. -/
def inferPartsUptoRow : OpenClaim := { program := "ytokfbblhjpfjkaagreat", sum := "f8f4863240566907aada19130465e6e953865d1f8c1ba5615ba81be22d482bf4", func := "porism/porismlaw17.InferParts", spec := "inferParts", unfollowed := true, recurses := true, loops := true, apart := false, narrowed := true }
def InferPartsUptoSaid : Prop := inferPartsUptoRow.holds Tryz.pinned (OpenSpec.upto inferPartsSpec)

/-- 'porismlaw17.InferIds', WHERE WHAT IT READS IS OF BULK AT MOST 1048576: true; the input reads as it did. -/
def inferIdsUptoRow : OpenClaim := { program := "ytokfbblhjpfjkaagreat", sum := "f8f4863240566907aada19130465e6e953865d1f8c1ba5615ba81be22d482bf4", func := "porism/porismlaw17.InferIds", spec := "inferIds", unfollowed := true, recurses := true, loops := true, apart := false, narrowed := true }
def InferIdsUptoSaid : Prop := inferIdsUptoRow.holds Tryz.pinned (OpenSpec.upto inferIdsSpec)

/-- 'porismlaw17.InferTypes', WHERE WHAT IT READS IS OF BULK AT MOST 1048576: true; the input reads as it did. -/
def inferTypesUptoRow : OpenClaim := { program := "ytokfbblhjpfjkaagreat", sum := "f8f4863240566907aada19130465e6e953865d1f8c1ba5615ba81be22d482bf4", func := "porism/porismlaw17.InferTypes", spec := "inferTypes", unfollowed := true, recurses := true, loops := true, apart := false, narrowed := true }
def InferTypesUptoSaid : Prop := inferTypesUptoRow.holds Tryz.pinned (OpenSpec.upto inferTypesSpec)

/-- 'porismlaw17.InferNormal', WHERE WHAT IT READS IS OF BULK AT MOST 1048576: true; the input reads as it did. -/
def inferNormalUptoRow : OpenClaim := { program := "ytokfbblhjpfjkaagreat", sum := "f8f4863240566907aada19130465e6e953865d1f8c1ba5615ba81be22d482bf4", func := "porism/porismlaw17.InferNormal", spec := "inferNormal", unfollowed := true, recurses := true, loops := true, apart := false, narrowed := true }
def InferNormalUptoSaid : Prop := inferNormalUptoRow.holds Tryz.pinned (OpenSpec.upto inferNormalSpec)

end Rows
end Go.Proofs.YtokfbblhjpfjkaaGreat
