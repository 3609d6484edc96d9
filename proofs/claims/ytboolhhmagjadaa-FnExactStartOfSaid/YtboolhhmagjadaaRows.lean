/-
  NARROWER THAN 'FOR EVERY INPUT', by the rows' own cells (each row's printed sentence says how): FnExactGoalOf: loops · FnExactTestOf: loops · FnExactOpenCases: loops · FnExactStartOf: loops.
  DERIVED. THE GIVEN ROWS OF THIS SEAT. 8 by the template 'for every input the law returns true; each argument reads behind the call as it read before'; 0 by the template 'total and deterministic' (their statements: YtboolhhmagjadaaTotals.lean).
  GIVEN WITH THE SEED: the statements are not yours to turn. If you find one false, say at which input.
  Laid BY PROGRAM, IN A SANDBOX (cutbox-rows.mjs): the forced cells as the released guide's own fill.sh prints them over the translation 42b941504eece6ed… (all of the seat's roots in one cut). By AI agents, Wed Nov 11 2026. No macro, syntax, notation, axiom, sorry.
-/
import Derived.Test.YtboolhhmagjadaaChecked
import GoSem.Claim
import GoSem.ClaimJoined
import GoSem.ClaimMapViews
import Derived.JoinedTies
import Derived.KernelRfl
namespace Go.Proofs.Ytboolhhmagjadaa
/- THE CELL 'sum', in the pinned program and in every row, IS THE sha256 OF THE DUMP (.gsa) THAT YtboolhhmagjadaaProg.lean LOADS. Nothing in Lean hashes anything: it is a label: what it is worth is what the hold of that sum in a sandbox is worth. -/
noncomputable def Try.pinned : Pinned := { name := "ytboolhhmagjadaa", sum := "42b941504eece6ed0db385138d950d89b6ef84dfaaede6e777f4c934ff382168", checked := Try.checked }
namespace Rows
def none {H : Type} : Left H := { results := [], args := [] }

/-- 'laws.FnCases': WHATEVER THE INPUT: true; the input reads as it did. -/
def fnCasesSpec : ChangeSpec := { name := "fnCases", fn := fun _ => fun
  | [d] => { results := [.lit (.bool true)], args := [d] }
  | _ => none }
def fnCasesRow : OpenClaim := { program := "ytboolhhmagjadaa", sum := "42b941504eece6ed0db385138d950d89b6ef84dfaaede6e777f4c934ff382168", func := "loop.example/g00517/laws.FnCases", spec := "fnCases", unfollowed := true, recurses := true, apart := false }
def FnCasesSaid : Prop := fnCasesRow.holds Try.pinned (OpenSpec.ofChange fnCasesSpec)

/-- ITS FALSE NEIGHBOUR: 'it returns false'. Refute it at one input. -/
def fnCasesWrong : ChangeSpec := { name := "fnCases", fn := fun _ => fun
  | [d] => { results := [.lit (.bool false)], args := [d] }
  | _ => none }
def FnCasesWrongFalsely : Prop := fnCasesRow.holds Try.pinned (OpenSpec.ofChange fnCasesWrong)

/-- 'laws.FnExactGoalOf': WHATEVER THE INPUT: true; the input reads as it did. -/
def fnExactGoalOfSpec : ChangeSpec := { name := "fnExactGoalOf", fn := fun _ => fun
  | [d1, d2] => { results := [.lit (.bool true)], args := [d1, d2] }
  | _ => none }
def fnExactGoalOfRow : OpenClaim := { program := "ytboolhhmagjadaa", sum := "42b941504eece6ed0db385138d950d89b6ef84dfaaede6e777f4c934ff382168", func := "loop.example/g00517/laws.FnExactGoalOf", spec := "fnExactGoalOf", recurses := true, loops := true, apart := false }
def FnExactGoalOfSaid : Prop := fnExactGoalOfRow.holds Try.pinned (OpenSpec.ofChange fnExactGoalOfSpec)

/-- ITS FALSE NEIGHBOUR: 'it returns false'. Refute it at one input. -/
def fnExactGoalOfWrong : ChangeSpec := { name := "fnExactGoalOf", fn := fun _ => fun
  | [d1, d2] => { results := [.lit (.bool false)], args := [d1, d2] }
  | _ => none }
def FnExactGoalOfWrongFalsely : Prop := fnExactGoalOfRow.holds Try.pinned (OpenSpec.ofChange fnExactGoalOfWrong)

/-- 'laws.FnExactTestOf': WHATEVER THE INPUT: true; the input reads as it did. -/
def fnExactTestOfSpec : ChangeSpec := { name := "fnExactTestOf", fn := fun _ => fun
  | [d] => { results := [.lit (.bool true)], args := [d] }
  | _ => none }
def fnExactTestOfRow : OpenClaim := { program := "ytboolhhmagjadaa", sum := "42b941504eece6ed0db385138d950d89b6ef84dfaaede6e777f4c934ff382168", func := "loop.example/g00517/laws.FnExactTestOf", spec := "fnExactTestOf", recurses := true, loops := true, apart := false }
def FnExactTestOfSaid : Prop := fnExactTestOfRow.holds Try.pinned (OpenSpec.ofChange fnExactTestOfSpec)

/-- ITS FALSE NEIGHBOUR: 'it returns false'. Refute it at one input. -/
def fnExactTestOfWrong : ChangeSpec := { name := "fnExactTestOf", fn := fun _ => fun
  | [d] => { results := [.lit (.bool false)], args := [d] }
  | _ => none }
def FnExactTestOfWrongFalsely : Prop := fnExactTestOfRow.holds Try.pinned (OpenSpec.ofChange fnExactTestOfWrong)

/-- 'laws.FnExactOpenCases': WHATEVER THE INPUT: true; the input reads as it did. -/
def fnExactOpenCasesSpec : ChangeSpec := { name := "fnExactOpenCases", fn := fun _ => fun
  | [d1, d2] => { results := [.lit (.bool true)], args := [d1, d2] }
  | _ => none }
def fnExactOpenCasesRow : OpenClaim := { program := "ytboolhhmagjadaa", sum := "42b941504eece6ed0db385138d950d89b6ef84dfaaede6e777f4c934ff382168", func := "loop.example/g00517/laws.FnExactOpenCases", spec := "fnExactOpenCases", unfollowed := true, recurses := true, loops := true, apart := false }
def FnExactOpenCasesSaid : Prop := fnExactOpenCasesRow.holds Try.pinned (OpenSpec.ofChange fnExactOpenCasesSpec)

/-- ITS FALSE NEIGHBOUR: 'it returns false'. Refute it at one input. -/
def fnExactOpenCasesWrong : ChangeSpec := { name := "fnExactOpenCases", fn := fun _ => fun
  | [d1, d2] => { results := [.lit (.bool false)], args := [d1, d2] }
  | _ => none }
def FnExactOpenCasesWrongFalsely : Prop := fnExactOpenCasesRow.holds Try.pinned (OpenSpec.ofChange fnExactOpenCasesWrong)

/-- 'laws.FnExactStartOf': WHATEVER THE INPUT: true; the input reads as it did. -/
def fnExactStartOfSpec : ChangeSpec := { name := "fnExactStartOf", fn := fun _ => fun
  | [d] => { results := [.lit (.bool true)], args := [d] }
  | _ => none }
def fnExactStartOfRow : OpenClaim := { program := "ytboolhhmagjadaa", sum := "42b941504eece6ed0db385138d950d89b6ef84dfaaede6e777f4c934ff382168", func := "loop.example/g00517/laws.FnExactStartOf", spec := "fnExactStartOf", unfollowed := true, recurses := true, loops := true, apart := false }
def FnExactStartOfSaid : Prop := fnExactStartOfRow.holds Try.pinned (OpenSpec.ofChange fnExactStartOfSpec)

/-- ITS FALSE NEIGHBOUR: 'it returns false'. Refute it at one input. -/
def fnExactStartOfWrong : ChangeSpec := { name := "fnExactStartOf", fn := fun _ => fun
  | [d] => { results := [.lit (.bool false)], args := [d] }
  | _ => none }
def FnExactStartOfWrongFalsely : Prop := fnExactStartOfRow.holds Try.pinned (OpenSpec.ofChange fnExactStartOfWrong)

/-- 'laws.FnMatched': WHATEVER THE INPUT: true; the input reads as it did. -/
def fnMatchedSpec : ChangeSpec := { name := "fnMatched", fn := fun _ => fun
  | [d] => { results := [.lit (.bool true)], args := [d] }
  | _ => none }
def fnMatchedRow : OpenClaim := { program := "ytboolhhmagjadaa", sum := "42b941504eece6ed0db385138d950d89b6ef84dfaaede6e777f4c934ff382168", func := "loop.example/g00517/laws.FnMatched", spec := "fnMatched", unfollowed := true, recurses := true, apart := false }
def FnMatchedSaid : Prop := fnMatchedRow.holds Try.pinned (OpenSpec.ofChange fnMatchedSpec)

/-- ITS FALSE NEIGHBOUR: 'it returns false'. Refute it at one input. -/
def fnMatchedWrong : ChangeSpec := { name := "fnMatched", fn := fun _ => fun
  | [d] => { results := [.lit (.bool false)], args := [d] }
  | _ => none }
def FnMatchedWrongFalsely : Prop := fnMatchedRow.holds Try.pinned (OpenSpec.ofChange fnMatchedWrong)

/-- 'laws.FnSubst': WHATEVER THE INPUT: true; the input reads as it did. -/
def fnSubstSpec : ChangeSpec := { name := "fnSubst", fn := fun _ => fun
  | [d] => { results := [.lit (.bool true)], args := [d] }
  | _ => none }
def fnSubstRow : OpenClaim := { program := "ytboolhhmagjadaa", sum := "42b941504eece6ed0db385138d950d89b6ef84dfaaede6e777f4c934ff382168", func := "loop.example/g00517/laws.FnSubst", spec := "fnSubst", unfollowed := true, recurses := true, apart := false }
def FnSubstSaid : Prop := fnSubstRow.holds Try.pinned (OpenSpec.ofChange fnSubstSpec)

/-- ITS FALSE NEIGHBOUR: 'it returns false'. Refute it at one input. -/
def fnSubstWrong : ChangeSpec := { name := "fnSubst", fn := fun _ => fun
  | [d] => { results := [.lit (.bool false)], args := [d] }
  | _ => none }
def FnSubstWrongFalsely : Prop := fnSubstRow.holds Try.pinned (OpenSpec.ofChange fnSubstWrong)

/-- 'laws.FnUnified': WHATEVER THE INPUT: true; the input reads as it did. -/
def fnUnifiedSpec : ChangeSpec := { name := "fnUnified", fn := fun _ => fun
  | [d] => { results := [.lit (.bool true)], args := [d] }
  | _ => none }
def fnUnifiedRow : OpenClaim := { program := "ytboolhhmagjadaa", sum := "42b941504eece6ed0db385138d950d89b6ef84dfaaede6e777f4c934ff382168", func := "loop.example/g00517/laws.FnUnified", spec := "fnUnified", unfollowed := true, recurses := true, apart := false }
def FnUnifiedSaid : Prop := fnUnifiedRow.holds Try.pinned (OpenSpec.ofChange fnUnifiedSpec)

/-- ITS FALSE NEIGHBOUR: 'it returns false'. Refute it at one input. -/
def fnUnifiedWrong : ChangeSpec := { name := "fnUnified", fn := fun _ => fun
  | [d] => { results := [.lit (.bool false)], args := [d] }
  | _ => none }
def FnUnifiedWrongFalsely : Prop := fnUnifiedRow.holds Try.pinned (OpenSpec.ofChange fnUnifiedWrong)

/- THE SECOND FORM. 'bulk': how many values and letters a reading holds, each counted each time it is reached (what is shared counts as often as it is met; a slice's spare places count too). A statement '..UptoSaid' is the law's where the arguments, and the package variables that the reading takes, are together of bulk at most 1048576: NARROWER than '..Said'. Prove '..Said' where nothing that the law and all that it calls make is longer than what came in: it says more and counts as full. Else prove '..UptoSaid'. A law counts once. -/
mutual
def uptoBulk {H : Type} : DataW H → Nat
  | .lit (.string bytes) => bytes.length + 1
  | .lit _ => 1
  | .nil => 1
  | .ptr d => uptoBulk d + 1
  | .slice elems spare => uptoBulkAll elems + uptoBulkAll spare + 1
  | .agg parts => uptoBulkAll parts + 1
  | .iface _ d => uptoBulk d + 1
  | .map entries => uptoBulkEntries entries + 1
  | .held _ => 1
def uptoBulkAll {H : Type} : List (DataW H) → Nat
  | [] => 0
  | d :: r => uptoBulk d + uptoBulkAll r
def uptoBulkEntries {H : Type} : List (Lit × DataW H) → Nat
  | [] => 0
  | x :: r => uptoBulkEntry x + uptoBulkEntries r
def uptoBulkEntry {H : Type} : Lit × DataW H → Nat
  | (.string bytes, d) => bytes.length + uptoBulk d + 1
  | (_, d) => uptoBulk d + 1
 end
def uptoSmall : (H : Type) → List (DataW H) → Bool := fun _ ds => decide (uptoBulkAll ds ≤ 1048576)
def OpenSpec.upto (s : _root_.Go.ChangeSpec) : _root_.Go.OpenSpec := { _root_.Go.OpenSpec.ofChange s with cond := some uptoSmall }

/-- 'laws.FnCases', WHERE WHAT IT READS IS OF BULK AT MOST 1048576: true; the input reads as it did. -/
def fnCasesUptoRow : OpenClaim := { program := "ytboolhhmagjadaa", sum := "42b941504eece6ed0db385138d950d89b6ef84dfaaede6e777f4c934ff382168", func := "loop.example/g00517/laws.FnCases", spec := "fnCases", unfollowed := true, recurses := true, apart := false, narrowed := true }
def FnCasesUptoSaid : Prop := fnCasesUptoRow.holds Try.pinned (OpenSpec.upto fnCasesSpec)

/-- 'laws.FnExactGoalOf', WHERE WHAT IT READS IS OF BULK AT MOST 1048576: true; the input reads as it did. -/
def fnExactGoalOfUptoRow : OpenClaim := { program := "ytboolhhmagjadaa", sum := "42b941504eece6ed0db385138d950d89b6ef84dfaaede6e777f4c934ff382168", func := "loop.example/g00517/laws.FnExactGoalOf", spec := "fnExactGoalOf", recurses := true, loops := true, apart := false, narrowed := true }
def FnExactGoalOfUptoSaid : Prop := fnExactGoalOfUptoRow.holds Try.pinned (OpenSpec.upto fnExactGoalOfSpec)

/-- 'laws.FnExactTestOf', WHERE WHAT IT READS IS OF BULK AT MOST 1048576: true; the input reads as it did. -/
def fnExactTestOfUptoRow : OpenClaim := { program := "ytboolhhmagjadaa", sum := "42b941504eece6ed0db385138d950d89b6ef84dfaaede6e777f4c934ff382168", func := "loop.example/g00517/laws.FnExactTestOf", spec := "fnExactTestOf", recurses := true, loops := true, apart := false, narrowed := true }
def FnExactTestOfUptoSaid : Prop := fnExactTestOfUptoRow.holds Try.pinned (OpenSpec.upto fnExactTestOfSpec)

/-- 'laws.FnExactOpenCases', WHERE WHAT IT READS IS OF BULK AT MOST 1048576: true; the input reads as it did. -/
def fnExactOpenCasesUptoRow : OpenClaim := { program := "ytboolhhmagjadaa", sum := "42b941504eece6ed0db385138d950d89b6ef84dfaaede6e777f4c934ff382168", func := "loop.example/g00517/laws.FnExactOpenCases", spec := "fnExactOpenCases", unfollowed := true, recurses := true, loops := true, apart := false, narrowed := true }
def FnExactOpenCasesUptoSaid : Prop := fnExactOpenCasesUptoRow.holds Try.pinned (OpenSpec.upto fnExactOpenCasesSpec)

/-- 'laws.FnExactStartOf', WHERE WHAT IT READS IS OF BULK AT MOST 1048576: true; the input reads as it did. -/
def fnExactStartOfUptoRow : OpenClaim := { program := "ytboolhhmagjadaa", sum := "42b941504eece6ed0db385138d950d89b6ef84dfaaede6e777f4c934ff382168", func := "loop.example/g00517/laws.FnExactStartOf", spec := "fnExactStartOf", unfollowed := true, recurses := true, loops := true, apart := false, narrowed := true }
def FnExactStartOfUptoSaid : Prop := fnExactStartOfUptoRow.holds Try.pinned (OpenSpec.upto fnExactStartOfSpec)

/-- 'laws.FnMatched', WHERE WHAT IT READS IS OF BULK AT MOST 1048576: true; the input reads as it did. -/
def fnMatchedUptoRow : OpenClaim := { program := "ytboolhhmagjadaa", sum := "42b941504eece6ed0db385138d950d89b6ef84dfaaede6e777f4c934ff382168", func := "loop.example/g00517/laws.FnMatched", spec := "fnMatched", unfollowed := true, recurses := true, apart := false, narrowed := true }
def FnMatchedUptoSaid : Prop := fnMatchedUptoRow.holds Try.pinned (OpenSpec.upto fnMatchedSpec)

/-- 'laws.FnSubst', WHERE WHAT IT READS IS OF BULK AT MOST 1048576: true; the input reads as it did. -/
def fnSubstUptoRow : OpenClaim := { program := "ytboolhhmagjadaa", sum := "42b941504eece6ed0db385138d950d89b6ef84dfaaede6e777f4c934ff382168", func := "loop.example/g00517/laws.FnSubst", spec := "fnSubst", unfollowed := true, recurses := true, apart := false, narrowed := true }
def FnSubstUptoSaid : Prop := fnSubstUptoRow.holds Try.pinned (OpenSpec.upto fnSubstSpec)

/-- 'laws.FnUnified', WHERE WHAT IT READS IS OF BULK AT MOST 1048576: true; the input reads as it did. -/
def fnUnifiedUptoRow : OpenClaim := { program := "ytboolhhmagjadaa", sum := "42b941504eece6ed0db385138d950d89b6ef84dfaaede6e777f4c934ff382168", func := "loop.example/g00517/laws.FnUnified", spec := "fnUnified", unfollowed := true, recurses := true, apart := false, narrowed := true }
def FnUnifiedUptoSaid : Prop := fnUnifiedUptoRow.holds Try.pinned (OpenSpec.upto fnUnifiedSpec)

end Rows
end Go.Proofs.Ytboolhhmagjadaa
