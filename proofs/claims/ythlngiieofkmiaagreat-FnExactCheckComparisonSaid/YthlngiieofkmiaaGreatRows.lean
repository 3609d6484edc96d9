/-
  NARROWER THAN 'FOR EVERY INPUT', by the rows' own cells (each row's printed sentence says how): FnExactIsValidClaim: loops · FnExactReachesTerm: loops · FnExactPassesTest: loops · FnExactRunTerm: loops · FnExactTranslateTerm: loops · FnExactTraceTerm: loops · FnExactIsDecided: loops · FnExactFindRefutation: loops · FnExactCheckComparison: loops · FnExactComparePrograms: loops · FnExactStepSymbolic: loops · FnExactBranchesOf: loops.
  DERIVED. THE GIVEN ROWS OF THIS SEAT. 12 by the template 'for every input the law returns true; each argument reads behind the call as it read before'; 0 by the template 'total and deterministic' (their statements: YthlngiieofkmiaaGreatTotals.lean).
  GIVEN WITH THE SEED: the statements are not yours to turn. If you find one false, say at which input.
  Laid BY PROGRAM, IN A SANDBOX (cutbox-rows.mjs): the forced cells as the released guide's own fill.sh prints them over the translation e1f7ee4a2c9ba7b9… (all of the seat's roots in one cut). By AI agents, Wed Nov 11 2026. No macro, syntax, notation, axiom, sorry.
-/
import Derived.Test.YthlngiieofkmiaaGreatChecked
import GoSem.Claim
import GoSem.ClaimJoined
import GoSem.ClaimMapViews
import Derived.JoinedTies
import Derived.KernelRfl
namespace Go.Proofs.YthlngiieofkmiaaGreat
/- THE CELL 'sum', in the pinned program and in every row, IS THE sha256 OF THE DUMP (.gsa) THAT YthlngiieofkmiaaGreatProg.lean LOADS. Nothing in Lean hashes anything: it is a label: what it is worth is what the hold of that sum in a sandbox is worth. -/
noncomputable def Tryz.pinned : Pinned := { name := "ythlngiieofkmiaagreat", sum := "e1f7ee4a2c9ba7b988a08c717c2bb481b3d4edd71ea54a53fd3df93df08e348f", checked := Tryz.checked }
namespace Rows
def none {H : Type} : Left H := { results := [], args := [] }

/-- 'laws.FnExactIsValidClaim': WHATEVER THE INPUT: true; the input reads as it did. -/
def fnExactIsValidClaimSpec : ChangeSpec := { name := "fnExactIsValidClaim", fn := fun _ => fun
  | [d1, d2] => { results := [.lit (.bool true)], args := [d1, d2] }
  | _ => none }
def fnExactIsValidClaimRow : OpenClaim := { program := "ythlngiieofkmiaagreat", sum := "e1f7ee4a2c9ba7b988a08c717c2bb481b3d4edd71ea54a53fd3df93df08e348f", func := "loop.example/g00517/laws.FnExactIsValidClaim", spec := "fnExactIsValidClaim", recurses := true, loops := true, apart := false }
def FnExactIsValidClaimSaid : Prop := fnExactIsValidClaimRow.holds Tryz.pinned (OpenSpec.ofChange fnExactIsValidClaimSpec)

/-- ITS FALSE NEIGHBOUR: 'it returns false'. Refute it at one input. -/
def fnExactIsValidClaimWrong : ChangeSpec := { name := "fnExactIsValidClaim", fn := fun _ => fun
  | [d1, d2] => { results := [.lit (.bool false)], args := [d1, d2] }
  | _ => none }
def FnExactIsValidClaimWrongFalsely : Prop := fnExactIsValidClaimRow.holds Tryz.pinned (OpenSpec.ofChange fnExactIsValidClaimWrong)

/-- 'laws.FnExactReachesTerm': WHATEVER THE INPUT: true; the input reads as it did. -/
def fnExactReachesTermSpec : ChangeSpec := { name := "fnExactReachesTerm", fn := fun _ => fun
  | [d1, d2, d3, d4] => { results := [.lit (.bool true)], args := [d1, d2, d3, d4] }
  | _ => none }
def fnExactReachesTermRow : OpenClaim := { program := "ythlngiieofkmiaagreat", sum := "e1f7ee4a2c9ba7b988a08c717c2bb481b3d4edd71ea54a53fd3df93df08e348f", func := "loop.example/g00517/laws.FnExactReachesTerm", spec := "fnExactReachesTerm", unfollowed := true, recurses := true, loops := true, apart := false }
def FnExactReachesTermSaid : Prop := fnExactReachesTermRow.holds Tryz.pinned (OpenSpec.ofChange fnExactReachesTermSpec)

/-- ITS FALSE NEIGHBOUR: 'it returns false'. Refute it at one input. -/
def fnExactReachesTermWrong : ChangeSpec := { name := "fnExactReachesTerm", fn := fun _ => fun
  | [d1, d2, d3, d4] => { results := [.lit (.bool false)], args := [d1, d2, d3, d4] }
  | _ => none }
def FnExactReachesTermWrongFalsely : Prop := fnExactReachesTermRow.holds Tryz.pinned (OpenSpec.ofChange fnExactReachesTermWrong)

/-- 'laws.FnExactPassesTest': WHATEVER THE INPUT: true; the input reads as it did. -/
def fnExactPassesTestSpec : ChangeSpec := { name := "fnExactPassesTest", fn := fun _ => fun
  | [d1, d2] => { results := [.lit (.bool true)], args := [d1, d2] }
  | _ => none }
def fnExactPassesTestRow : OpenClaim := { program := "ythlngiieofkmiaagreat", sum := "e1f7ee4a2c9ba7b988a08c717c2bb481b3d4edd71ea54a53fd3df93df08e348f", func := "loop.example/g00517/laws.FnExactPassesTest", spec := "fnExactPassesTest", unfollowed := true, recurses := true, loops := true, apart := false }
def FnExactPassesTestSaid : Prop := fnExactPassesTestRow.holds Tryz.pinned (OpenSpec.ofChange fnExactPassesTestSpec)

/-- ITS FALSE NEIGHBOUR: 'it returns false'. Refute it at one input. -/
def fnExactPassesTestWrong : ChangeSpec := { name := "fnExactPassesTest", fn := fun _ => fun
  | [d1, d2] => { results := [.lit (.bool false)], args := [d1, d2] }
  | _ => none }
def FnExactPassesTestWrongFalsely : Prop := fnExactPassesTestRow.holds Tryz.pinned (OpenSpec.ofChange fnExactPassesTestWrong)

/-- 'laws.FnExactRunTerm': WHATEVER THE INPUT: true; the input reads as it did. -/
def fnExactRunTermSpec : ChangeSpec := { name := "fnExactRunTerm", fn := fun _ => fun
  | [d1, d2, d3] => { results := [.lit (.bool true)], args := [d1, d2, d3] }
  | _ => none }
def fnExactRunTermRow : OpenClaim := { program := "ythlngiieofkmiaagreat", sum := "e1f7ee4a2c9ba7b988a08c717c2bb481b3d4edd71ea54a53fd3df93df08e348f", func := "loop.example/g00517/laws.FnExactRunTerm", spec := "fnExactRunTerm", unfollowed := true, recurses := true, loops := true, apart := false }
def FnExactRunTermSaid : Prop := fnExactRunTermRow.holds Tryz.pinned (OpenSpec.ofChange fnExactRunTermSpec)

/-- ITS FALSE NEIGHBOUR: 'it returns false'. Refute it at one input. -/
def fnExactRunTermWrong : ChangeSpec := { name := "fnExactRunTerm", fn := fun _ => fun
  | [d1, d2, d3] => { results := [.lit (.bool false)], args := [d1, d2, d3] }
  | _ => none }
def FnExactRunTermWrongFalsely : Prop := fnExactRunTermRow.holds Tryz.pinned (OpenSpec.ofChange fnExactRunTermWrong)

/-- 'laws.FnExactTranslateTerm': WHATEVER THE INPUT: true; the input reads as it did. -/
def fnExactTranslateTermSpec : ChangeSpec := { name := "fnExactTranslateTerm", fn := fun _ => fun
  | [d1, d2, d3] => { results := [.lit (.bool true)], args := [d1, d2, d3] }
  | _ => none }
def fnExactTranslateTermRow : OpenClaim := { program := "ythlngiieofkmiaagreat", sum := "e1f7ee4a2c9ba7b988a08c717c2bb481b3d4edd71ea54a53fd3df93df08e348f", func := "loop.example/g00517/laws.FnExactTranslateTerm", spec := "fnExactTranslateTerm", unfollowed := true, recurses := true, loops := true, apart := false }
def FnExactTranslateTermSaid : Prop := fnExactTranslateTermRow.holds Tryz.pinned (OpenSpec.ofChange fnExactTranslateTermSpec)

/-- ITS FALSE NEIGHBOUR: 'it returns false'. Refute it at one input. -/
def fnExactTranslateTermWrong : ChangeSpec := { name := "fnExactTranslateTerm", fn := fun _ => fun
  | [d1, d2, d3] => { results := [.lit (.bool false)], args := [d1, d2, d3] }
  | _ => none }
def FnExactTranslateTermWrongFalsely : Prop := fnExactTranslateTermRow.holds Tryz.pinned (OpenSpec.ofChange fnExactTranslateTermWrong)

/-- 'laws.FnExactTraceTerm': WHATEVER THE INPUT: true; the input reads as it did. -/
def fnExactTraceTermSpec : ChangeSpec := { name := "fnExactTraceTerm", fn := fun _ => fun
  | [d1, d2, d3] => { results := [.lit (.bool true)], args := [d1, d2, d3] }
  | _ => none }
def fnExactTraceTermRow : OpenClaim := { program := "ythlngiieofkmiaagreat", sum := "e1f7ee4a2c9ba7b988a08c717c2bb481b3d4edd71ea54a53fd3df93df08e348f", func := "loop.example/g00517/laws.FnExactTraceTerm", spec := "fnExactTraceTerm", unfollowed := true, recurses := true, loops := true, apart := false }
def FnExactTraceTermSaid : Prop := fnExactTraceTermRow.holds Tryz.pinned (OpenSpec.ofChange fnExactTraceTermSpec)

/-- ITS FALSE NEIGHBOUR: 'it returns false'. Refute it at one input. -/
def fnExactTraceTermWrong : ChangeSpec := { name := "fnExactTraceTerm", fn := fun _ => fun
  | [d1, d2, d3] => { results := [.lit (.bool false)], args := [d1, d2, d3] }
  | _ => none }
def FnExactTraceTermWrongFalsely : Prop := fnExactTraceTermRow.holds Tryz.pinned (OpenSpec.ofChange fnExactTraceTermWrong)

/-- 'laws.FnExactIsDecided': WHATEVER THE INPUT: true; the input reads as it did. -/
def fnExactIsDecidedSpec : ChangeSpec := { name := "fnExactIsDecided", fn := fun _ => fun
  | [d1, d2] => { results := [.lit (.bool true)], args := [d1, d2] }
  | _ => none }
def fnExactIsDecidedRow : OpenClaim := { program := "ythlngiieofkmiaagreat", sum := "e1f7ee4a2c9ba7b988a08c717c2bb481b3d4edd71ea54a53fd3df93df08e348f", func := "loop.example/g00517/laws.FnExactIsDecided", spec := "fnExactIsDecided", unfollowed := true, recurses := true, loops := true, apart := false }
def FnExactIsDecidedSaid : Prop := fnExactIsDecidedRow.holds Tryz.pinned (OpenSpec.ofChange fnExactIsDecidedSpec)

/-- ITS FALSE NEIGHBOUR: 'it returns false'. Refute it at one input. -/
def fnExactIsDecidedWrong : ChangeSpec := { name := "fnExactIsDecided", fn := fun _ => fun
  | [d1, d2] => { results := [.lit (.bool false)], args := [d1, d2] }
  | _ => none }
def FnExactIsDecidedWrongFalsely : Prop := fnExactIsDecidedRow.holds Tryz.pinned (OpenSpec.ofChange fnExactIsDecidedWrong)

/-- 'laws.FnExactFindRefutation': WHATEVER THE INPUT: true; the input reads as it did. -/
def fnExactFindRefutationSpec : ChangeSpec := { name := "fnExactFindRefutation", fn := fun _ => fun
  | [d1, d2] => { results := [.lit (.bool true)], args := [d1, d2] }
  | _ => none }
def fnExactFindRefutationRow : OpenClaim := { program := "ythlngiieofkmiaagreat", sum := "e1f7ee4a2c9ba7b988a08c717c2bb481b3d4edd71ea54a53fd3df93df08e348f", func := "loop.example/g00517/laws.FnExactFindRefutation", spec := "fnExactFindRefutation", unfollowed := true, recurses := true, loops := true, apart := false }
def FnExactFindRefutationSaid : Prop := fnExactFindRefutationRow.holds Tryz.pinned (OpenSpec.ofChange fnExactFindRefutationSpec)

/-- ITS FALSE NEIGHBOUR: 'it returns false'. Refute it at one input. -/
def fnExactFindRefutationWrong : ChangeSpec := { name := "fnExactFindRefutation", fn := fun _ => fun
  | [d1, d2] => { results := [.lit (.bool false)], args := [d1, d2] }
  | _ => none }
def FnExactFindRefutationWrongFalsely : Prop := fnExactFindRefutationRow.holds Tryz.pinned (OpenSpec.ofChange fnExactFindRefutationWrong)

/-- 'laws.FnExactCheckComparison': WHATEVER THE INPUT: true; the input reads as it did. -/
def fnExactCheckComparisonSpec : ChangeSpec := { name := "fnExactCheckComparison", fn := fun _ => fun
  | [d1, d2, d3, d4, d5] => { results := [.lit (.bool true)], args := [d1, d2, d3, d4, d5] }
  | _ => none }
def fnExactCheckComparisonRow : OpenClaim := { program := "ythlngiieofkmiaagreat", sum := "e1f7ee4a2c9ba7b988a08c717c2bb481b3d4edd71ea54a53fd3df93df08e348f", func := "loop.example/g00517/laws.FnExactCheckComparison", spec := "fnExactCheckComparison", unfollowed := true, recurses := true, loops := true, apart := false }
def FnExactCheckComparisonSaid : Prop := fnExactCheckComparisonRow.holds Tryz.pinned (OpenSpec.ofChange fnExactCheckComparisonSpec)

/-- ITS FALSE NEIGHBOUR: 'it returns false'. Refute it at one input. -/
def fnExactCheckComparisonWrong : ChangeSpec := { name := "fnExactCheckComparison", fn := fun _ => fun
  | [d1, d2, d3, d4, d5] => { results := [.lit (.bool false)], args := [d1, d2, d3, d4, d5] }
  | _ => none }
def FnExactCheckComparisonWrongFalsely : Prop := fnExactCheckComparisonRow.holds Tryz.pinned (OpenSpec.ofChange fnExactCheckComparisonWrong)

/-- 'laws.FnExactComparePrograms': WHATEVER THE INPUT: true; the input reads as it did. -/
def fnExactCompareProgramsSpec : ChangeSpec := { name := "fnExactComparePrograms", fn := fun _ => fun
  | [d1, d2, d3, d4] => { results := [.lit (.bool true)], args := [d1, d2, d3, d4] }
  | _ => none }
def fnExactCompareProgramsRow : OpenClaim := { program := "ythlngiieofkmiaagreat", sum := "e1f7ee4a2c9ba7b988a08c717c2bb481b3d4edd71ea54a53fd3df93df08e348f", func := "loop.example/g00517/laws.FnExactComparePrograms", spec := "fnExactComparePrograms", unfollowed := true, recurses := true, loops := true, apart := false }
def FnExactCompareProgramsSaid : Prop := fnExactCompareProgramsRow.holds Tryz.pinned (OpenSpec.ofChange fnExactCompareProgramsSpec)

/-- ITS FALSE NEIGHBOUR: 'it returns false'. Refute it at one input. -/
def fnExactCompareProgramsWrong : ChangeSpec := { name := "fnExactComparePrograms", fn := fun _ => fun
  | [d1, d2, d3, d4] => { results := [.lit (.bool false)], args := [d1, d2, d3, d4] }
  | _ => none }
def FnExactCompareProgramsWrongFalsely : Prop := fnExactCompareProgramsRow.holds Tryz.pinned (OpenSpec.ofChange fnExactCompareProgramsWrong)

/-- 'laws.FnExactStepSymbolic': WHATEVER THE INPUT: true; the input reads as it did. -/
def fnExactStepSymbolicSpec : ChangeSpec := { name := "fnExactStepSymbolic", fn := fun _ => fun
  | [d1, d2, d3] => { results := [.lit (.bool true)], args := [d1, d2, d3] }
  | _ => none }
def fnExactStepSymbolicRow : OpenClaim := { program := "ythlngiieofkmiaagreat", sum := "e1f7ee4a2c9ba7b988a08c717c2bb481b3d4edd71ea54a53fd3df93df08e348f", func := "loop.example/g00517/laws.FnExactStepSymbolic", spec := "fnExactStepSymbolic", unfollowed := true, recurses := true, loops := true, apart := false }
def FnExactStepSymbolicSaid : Prop := fnExactStepSymbolicRow.holds Tryz.pinned (OpenSpec.ofChange fnExactStepSymbolicSpec)

/-- ITS FALSE NEIGHBOUR: 'it returns false'. Refute it at one input. -/
def fnExactStepSymbolicWrong : ChangeSpec := { name := "fnExactStepSymbolic", fn := fun _ => fun
  | [d1, d2, d3] => { results := [.lit (.bool false)], args := [d1, d2, d3] }
  | _ => none }
def FnExactStepSymbolicWrongFalsely : Prop := fnExactStepSymbolicRow.holds Tryz.pinned (OpenSpec.ofChange fnExactStepSymbolicWrong)

/-- 'laws.FnExactBranchesOf': WHATEVER THE INPUT: true; the input reads as it did. -/
def fnExactBranchesOfSpec : ChangeSpec := { name := "fnExactBranchesOf", fn := fun _ => fun
  | [d1, d2] => { results := [.lit (.bool true)], args := [d1, d2] }
  | _ => none }
def fnExactBranchesOfRow : OpenClaim := { program := "ythlngiieofkmiaagreat", sum := "e1f7ee4a2c9ba7b988a08c717c2bb481b3d4edd71ea54a53fd3df93df08e348f", func := "loop.example/g00517/laws.FnExactBranchesOf", spec := "fnExactBranchesOf", unfollowed := true, recurses := true, loops := true, apart := false }
def FnExactBranchesOfSaid : Prop := fnExactBranchesOfRow.holds Tryz.pinned (OpenSpec.ofChange fnExactBranchesOfSpec)

/-- ITS FALSE NEIGHBOUR: 'it returns false'. Refute it at one input. -/
def fnExactBranchesOfWrong : ChangeSpec := { name := "fnExactBranchesOf", fn := fun _ => fun
  | [d1, d2] => { results := [.lit (.bool false)], args := [d1, d2] }
  | _ => none }
def FnExactBranchesOfWrongFalsely : Prop := fnExactBranchesOfRow.holds Tryz.pinned (OpenSpec.ofChange fnExactBranchesOfWrong)

/- THE SECOND FORM. 'bulk': how many values and letters a reading holds, each counted each time it is reached (what is shared counts as often as it is met; a slice's spare places count too). A statement '..UptoSaid' is the law's where the arguments, and the package variables that the reading takes, are together of bulk at most 1048576: NARROWER than '..Said'. Prove '..Said' where nothing that the law and all that it calls make is longer than what came in: it says more and counts as full. Else prove '..UptoSaid'. A law counts once. -/
mutual
def uptoBulk {H : Type} : DataW H → Nat
  | .lit (.string bytes) => bytes.length + 1
  | .lit _ => 1
  | .nil => 1
  | .ptr d => uptoBulk d + 1
  | .slice elems spare => uptoBulkAll elems + uptoBulkAll spare + 1
  | .agg parts => uptoBulkAll parts + 1
  | .iface _ d => uptoBulk d + 1
  | .map entries => uptoBulkEntries entries + 1
  | .held _ => 1
def uptoBulkAll {H : Type} : List (DataW H) → Nat
  | [] => 0
  | d :: r => uptoBulk d + uptoBulkAll r
def uptoBulkEntries {H : Type} : List (Lit × DataW H) → Nat
  | [] => 0
  | x :: r => uptoBulkEntry x + uptoBulkEntries r
def uptoBulkEntry {H : Type} : Lit × DataW H → Nat
  | (.string bytes, d) => bytes.length + uptoBulk d + 1
  | (_, d) => uptoBulk d + 1
 end
def uptoSmall : (H : Type) → List (DataW H) → Bool := fun _ ds => decide (uptoBulkAll ds ≤ 1048576)
def OpenSpec.upto (s : _root_.Go.ChangeSpec) : _root_.Go.OpenSpec := { _root_.Go.OpenSpec.ofChange s with cond := some uptoSmall }

/-- 'laws.FnExactIsValidClaim', WHERE WHAT IT READS IS OF BULK AT MOST 1048576: true; the input reads as it did. -/
def fnExactIsValidClaimUptoRow : OpenClaim := { program := "ythlngiieofkmiaagreat", sum := "e1f7ee4a2c9ba7b988a08c717c2bb481b3d4edd71ea54a53fd3df93df08e348f", func := "loop.example/g00517/laws.FnExactIsValidClaim", spec := "fnExactIsValidClaim", recurses := true, loops := true, apart := false, narrowed := true }
def FnExactIsValidClaimUptoSaid : Prop := fnExactIsValidClaimUptoRow.holds Tryz.pinned (OpenSpec.upto fnExactIsValidClaimSpec)

/-- 'laws.FnExactReachesTerm', WHERE WHAT IT READS IS OF BULK AT MOST 1048576: true; the input reads as it did. -/
def fnExactReachesTermUptoRow : OpenClaim := { program := "ythlngiieofkmiaagreat", sum := "e1f7ee4a2c9ba7b988a08c717c2bb481b3d4edd71ea54a53fd3df93df08e348f", func := "loop.example/g00517/laws.FnExactReachesTerm", spec := "fnExactReachesTerm", unfollowed := true, recurses := true, loops := true, apart := false, narrowed := true }
def FnExactReachesTermUptoSaid : Prop := fnExactReachesTermUptoRow.holds Tryz.pinned (OpenSpec.upto fnExactReachesTermSpec)

/-- 'laws.FnExactPassesTest', WHERE WHAT IT READS IS OF BULK AT MOST 1048576: true; the input reads as it did. -/
def fnExactPassesTestUptoRow : OpenClaim := { program := "ythlngiieofkmiaagreat", sum := "e1f7ee4a2c9ba7b988a08c717c2bb481b3d4edd71ea54a53fd3df93df08e348f", func := "loop.example/g00517/laws.FnExactPassesTest", spec := "fnExactPassesTest", unfollowed := true, recurses := true, loops := true, apart := false, narrowed := true }
def FnExactPassesTestUptoSaid : Prop := fnExactPassesTestUptoRow.holds Tryz.pinned (OpenSpec.upto fnExactPassesTestSpec)

/-- 'laws.FnExactRunTerm', WHERE WHAT IT READS IS OF BULK AT MOST 1048576: true; the input reads as it did. -/
def fnExactRunTermUptoRow : OpenClaim := { program := "ythlngiieofkmiaagreat", sum := "e1f7ee4a2c9ba7b988a08c717c2bb481b3d4edd71ea54a53fd3df93df08e348f", func := "loop.example/g00517/laws.FnExactRunTerm", spec := "fnExactRunTerm", unfollowed := true, recurses := true, loops := true, apart := false, narrowed := true }
def FnExactRunTermUptoSaid : Prop := fnExactRunTermUptoRow.holds Tryz.pinned (OpenSpec.upto fnExactRunTermSpec)

/-- 'laws.FnExactTranslateTerm', WHERE WHAT IT READS IS OF BULK AT MOST 1048576: true; the input reads as it did. -/
def fnExactTranslateTermUptoRow : OpenClaim := { program := "ythlngiieofkmiaagreat", sum := "e1f7ee4a2c9ba7b988a08c717c2bb481b3d4edd71ea54a53fd3df93df08e348f", func := "loop.example/g00517/laws.FnExactTranslateTerm", spec := "fnExactTranslateTerm", unfollowed := true, recurses := true, loops := true, apart := false, narrowed := true }
def FnExactTranslateTermUptoSaid : Prop := fnExactTranslateTermUptoRow.holds Tryz.pinned (OpenSpec.upto fnExactTranslateTermSpec)

/-- 'laws.FnExactTraceTerm', WHERE WHAT IT READS IS OF BULK AT MOST 1048576: true; the input reads as it did. -/
def fnExactTraceTermUptoRow : OpenClaim := { program := "ythlngiieofkmiaagreat", sum := "e1f7ee4a2c9ba7b988a08c717c2bb481b3d4edd71ea54a53fd3df93df08e348f", func := "loop.example/g00517/laws.FnExactTraceTerm", spec := "fnExactTraceTerm", unfollowed := true, recurses := true, loops := true, apart := false, narrowed := true }
def FnExactTraceTermUptoSaid : Prop := fnExactTraceTermUptoRow.holds Tryz.pinned (OpenSpec.upto fnExactTraceTermSpec)

/-- 'laws.FnExactIsDecided', WHERE WHAT IT READS IS OF BULK AT MOST 1048576: true; the input reads as it did. -/
def fnExactIsDecidedUptoRow : OpenClaim := { program := "ythlngiieofkmiaagreat", sum := "e1f7ee4a2c9ba7b988a08c717c2bb481b3d4edd71ea54a53fd3df93df08e348f", func := "loop.example/g00517/laws.FnExactIsDecided", spec := "fnExactIsDecided", unfollowed := true, recurses := true, loops := true, apart := false, narrowed := true }
def FnExactIsDecidedUptoSaid : Prop := fnExactIsDecidedUptoRow.holds Tryz.pinned (OpenSpec.upto fnExactIsDecidedSpec)

/-- 'laws.FnExactFindRefutation', WHERE WHAT IT READS IS OF BULK AT MOST 1048576: true; the input reads as it did. -/
def fnExactFindRefutationUptoRow : OpenClaim := { program := "ythlngiieofkmiaagreat", sum := "e1f7ee4a2c9ba7b988a08c717c2bb481b3d4edd71ea54a53fd3df93df08e348f", func := "loop.example/g00517/laws.FnExactFindRefutation", spec := "fnExactFindRefutation", unfollowed := true, recurses := true, loops := true, apart := false, narrowed := true }
def FnExactFindRefutationUptoSaid : Prop := fnExactFindRefutationUptoRow.holds Tryz.pinned (OpenSpec.upto fnExactFindRefutationSpec)

/-- 'laws.FnExactCheckComparison', WHERE WHAT IT READS IS OF BULK AT MOST 1048576: true; the input reads as it did. -/
def fnExactCheckComparisonUptoRow : OpenClaim := { program := "ythlngiieofkmiaagreat", sum := "e1f7ee4a2c9ba7b988a08c717c2bb481b3d4edd71ea54a53fd3df93df08e348f", func := "loop.example/g00517/laws.FnExactCheckComparison", spec := "fnExactCheckComparison", unfollowed := true, recurses := true, loops := true, apart := false, narrowed := true }
def FnExactCheckComparisonUptoSaid : Prop := fnExactCheckComparisonUptoRow.holds Tryz.pinned (OpenSpec.upto fnExactCheckComparisonSpec)

/-- 'laws.FnExactComparePrograms', WHERE WHAT IT READS IS OF BULK AT MOST 1048576: true; the input reads as it did. -/
def fnExactCompareProgramsUptoRow : OpenClaim := { program := "ythlngiieofkmiaagreat", sum := "e1f7ee4a2c9ba7b988a08c717c2bb481b3d4edd71ea54a53fd3df93df08e348f", func := "loop.example/g00517/laws.FnExactComparePrograms", spec := "fnExactComparePrograms", unfollowed := true, recurses := true, loops := true, apart := false, narrowed := true }
def FnExactCompareProgramsUptoSaid : Prop := fnExactCompareProgramsUptoRow.holds Tryz.pinned (OpenSpec.upto fnExactCompareProgramsSpec)

/-- 'laws.FnExactStepSymbolic', WHERE WHAT IT READS IS OF BULK AT MOST 1048576: true; the input reads as it did. -/
def fnExactStepSymbolicUptoRow : OpenClaim := { program := "ythlngiieofkmiaagreat", sum := "e1f7ee4a2c9ba7b988a08c717c2bb481b3d4edd71ea54a53fd3df93df08e348f", func := "loop.example/g00517/laws.FnExactStepSymbolic", spec := "fnExactStepSymbolic", unfollowed := true, recurses := true, loops := true, apart := false, narrowed := true }
def FnExactStepSymbolicUptoSaid : Prop := fnExactStepSymbolicUptoRow.holds Tryz.pinned (OpenSpec.upto fnExactStepSymbolicSpec)

/-- 'laws.FnExactBranchesOf', WHERE WHAT IT READS IS OF BULK AT MOST 1048576: true; the input reads as it did. -/
def fnExactBranchesOfUptoRow : OpenClaim := { program := "ythlngiieofkmiaagreat", sum := "e1f7ee4a2c9ba7b988a08c717c2bb481b3d4edd71ea54a53fd3df93df08e348f", func := "loop.example/g00517/laws.FnExactBranchesOf", spec := "fnExactBranchesOf", unfollowed := true, recurses := true, loops := true, apart := false, narrowed := true }
def FnExactBranchesOfUptoSaid : Prop := fnExactBranchesOfUptoRow.holds Tryz.pinned (OpenSpec.upto fnExactBranchesOfSpec)

end Rows
end Go.Proofs.YthlngiieofkmiaaGreat
