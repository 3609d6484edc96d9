/-
  NARROWER THAN 'FOR EVERY INPUT', by the rows' own cells (each row's printed sentence says how): FnExactIsDecided: loops · FnExactStepSymbolic: loops · FnExactBranchesOf: loops · FnExactPathsOf: loops · FnExactTestsOf: loops · FnExactCheckProof: loops · FnExactCheckAll: loops · FnExactCheckVerdict: loops · FnExactFindProof: loops · FnExactProveAll: loops · FnExactVerifyClaims: loops.
  DERIVED. THE GIVEN ROWS OF THIS SEAT. 11 by the template 'for every input the law returns true; each argument reads behind the call as it read before'; 0 by the template 'total and deterministic' (their statements: YtnjedojmdcpcaaaGreatTotals.lean).
  GIVEN WITH THE SEED: the statements are not yours to turn. If you find one false, say at which input.
  Laid BY PROGRAM, IN A SANDBOX (cutbox-rows.mjs): the forced cells as the released guide's own fill.sh prints them over the translation 66fab15f8562008c… (all of the seat's roots in one cut). By AI agents, Wed Nov 11 2026. No macro, syntax, notation, axiom, sorry.
-/
import Derived.Test.YtnjedojmdcpcaaaGreatChecked
import GoSem.Claim
import GoSem.ClaimJoined
import GoSem.ClaimMapViews
import Derived.JoinedTies
import Derived.KernelRfl
namespace Go.Proofs.YtnjedojmdcpcaaaGreat
/- THE CELL 'sum', in the pinned program and in every row, IS THE sha256 OF THE DUMP (.gsa) THAT YtnjedojmdcpcaaaGreatProg.lean LOADS. Nothing in Lean hashes anything: it is a label: what it is worth is what the hold of that sum in a sandbox is worth. -/
noncomputable def Tryz.pinned : Pinned := { name := "ytnjedojmdcpcaaagreat", sum := "66fab15f8562008c224d0358623f6f272827253bb0ddf397837146eb25da6561", checked := Tryz.checked }
namespace Rows
def none {H : Type} : Left H := { results := [], args := [] }

/-- 'laws.FnExactIsDecided': WHATEVER THE INPUT: true; the input reads as it did. -/
def fnExactIsDecidedSpec : ChangeSpec := { name := "fnExactIsDecided", fn := fun _ => fun
  | [d1, d2] => { results := [.lit (.bool true)], args := [d1, d2] }
  | _ => none }
def fnExactIsDecidedRow : OpenClaim := { program := "ytnjedojmdcpcaaagreat", sum := "66fab15f8562008c224d0358623f6f272827253bb0ddf397837146eb25da6561", func := "loop.example/g00517/laws.FnExactIsDecided", spec := "fnExactIsDecided", unfollowed := true, recurses := true, loops := true, apart := false }
def FnExactIsDecidedSaid : Prop := fnExactIsDecidedRow.holds Tryz.pinned (OpenSpec.ofChange fnExactIsDecidedSpec)

/-- ITS FALSE NEIGHBOUR: 'it returns false'. Refute it at one input. -/
def fnExactIsDecidedWrong : ChangeSpec := { name := "fnExactIsDecided", fn := fun _ => fun
  | [d1, d2] => { results := [.lit (.bool false)], args := [d1, d2] }
  | _ => none }
def FnExactIsDecidedWrongFalsely : Prop := fnExactIsDecidedRow.holds Tryz.pinned (OpenSpec.ofChange fnExactIsDecidedWrong)

/-- 'laws.FnExactStepSymbolic': WHATEVER THE INPUT: true; the input reads as it did. -/
def fnExactStepSymbolicSpec : ChangeSpec := { name := "fnExactStepSymbolic", fn := fun _ => fun
  | [d1, d2, d3] => { results := [.lit (.bool true)], args := [d1, d2, d3] }
  | _ => none }
def fnExactStepSymbolicRow : OpenClaim := { program := "ytnjedojmdcpcaaagreat", sum := "66fab15f8562008c224d0358623f6f272827253bb0ddf397837146eb25da6561", func := "loop.example/g00517/laws.FnExactStepSymbolic", spec := "fnExactStepSymbolic", unfollowed := true, recurses := true, loops := true, apart := false }
def FnExactStepSymbolicSaid : Prop := fnExactStepSymbolicRow.holds Tryz.pinned (OpenSpec.ofChange fnExactStepSymbolicSpec)

/-- ITS FALSE NEIGHBOUR: 'it returns false'. Refute it at one input. -/
def fnExactStepSymbolicWrong : ChangeSpec := { name := "fnExactStepSymbolic", fn := fun _ => fun
  | [d1, d2, d3] => { results := [.lit (.bool false)], args := [d1, d2, d3] }
  | _ => none }
def FnExactStepSymbolicWrongFalsely : Prop := fnExactStepSymbolicRow.holds Tryz.pinned (OpenSpec.ofChange fnExactStepSymbolicWrong)

/-- 'laws.FnExactBranchesOf': WHATEVER THE INPUT: true; the input reads as it did. -/
def fnExactBranchesOfSpec : ChangeSpec := { name := "fnExactBranchesOf", fn := fun _ => fun
  | [d1, d2] => { results := [.lit (.bool true)], args := [d1, d2] }
  | _ => none }
def fnExactBranchesOfRow : OpenClaim := { program := "ytnjedojmdcpcaaagreat", sum := "66fab15f8562008c224d0358623f6f272827253bb0ddf397837146eb25da6561", func := "loop.example/g00517/laws.FnExactBranchesOf", spec := "fnExactBranchesOf", unfollowed := true, recurses := true, loops := true, apart := false }
def FnExactBranchesOfSaid : Prop := fnExactBranchesOfRow.holds Tryz.pinned (OpenSpec.ofChange fnExactBranchesOfSpec)

/-- ITS FALSE NEIGHBOUR: 'it returns false'. Refute it at one input. -/
def fnExactBranchesOfWrong : ChangeSpec := { name := "fnExactBranchesOf", fn := fun _ => fun
  | [d1, d2] => { results := [.lit (.bool false)], args := [d1, d2] }
  | _ => none }
def FnExactBranchesOfWrongFalsely : Prop := fnExactBranchesOfRow.holds Tryz.pinned (OpenSpec.ofChange fnExactBranchesOfWrong)

/-- 'laws.FnExactPathsOf': WHATEVER THE INPUT: true; the input reads as it did. -/
def fnExactPathsOfSpec : ChangeSpec := { name := "fnExactPathsOf", fn := fun _ => fun
  | [d1, d2, d3] => { results := [.lit (.bool true)], args := [d1, d2, d3] }
  | _ => none }
def fnExactPathsOfRow : OpenClaim := { program := "ytnjedojmdcpcaaagreat", sum := "66fab15f8562008c224d0358623f6f272827253bb0ddf397837146eb25da6561", func := "loop.example/g00517/laws.FnExactPathsOf", spec := "fnExactPathsOf", unfollowed := true, recurses := true, loops := true, apart := false }
def FnExactPathsOfSaid : Prop := fnExactPathsOfRow.holds Tryz.pinned (OpenSpec.ofChange fnExactPathsOfSpec)

/-- ITS FALSE NEIGHBOUR: 'it returns false'. Refute it at one input. -/
def fnExactPathsOfWrong : ChangeSpec := { name := "fnExactPathsOf", fn := fun _ => fun
  | [d1, d2, d3] => { results := [.lit (.bool false)], args := [d1, d2, d3] }
  | _ => none }
def FnExactPathsOfWrongFalsely : Prop := fnExactPathsOfRow.holds Tryz.pinned (OpenSpec.ofChange fnExactPathsOfWrong)

/-- 'laws.FnExactTestsOf': WHATEVER THE INPUT: true; the input reads as it did. -/
def fnExactTestsOfSpec : ChangeSpec := { name := "fnExactTestsOf", fn := fun _ => fun
  | [d1, d2, d3] => { results := [.lit (.bool true)], args := [d1, d2, d3] }
  | _ => none }
def fnExactTestsOfRow : OpenClaim := { program := "ytnjedojmdcpcaaagreat", sum := "66fab15f8562008c224d0358623f6f272827253bb0ddf397837146eb25da6561", func := "loop.example/g00517/laws.FnExactTestsOf", spec := "fnExactTestsOf", unfollowed := true, recurses := true, loops := true, apart := false }
def FnExactTestsOfSaid : Prop := fnExactTestsOfRow.holds Tryz.pinned (OpenSpec.ofChange fnExactTestsOfSpec)

/-- ITS FALSE NEIGHBOUR: 'it returns false'. Refute it at one input. -/
def fnExactTestsOfWrong : ChangeSpec := { name := "fnExactTestsOf", fn := fun _ => fun
  | [d1, d2, d3] => { results := [.lit (.bool false)], args := [d1, d2, d3] }
  | _ => none }
def FnExactTestsOfWrongFalsely : Prop := fnExactTestsOfRow.holds Tryz.pinned (OpenSpec.ofChange fnExactTestsOfWrong)

/-- 'laws.FnExactCheckProof': WHATEVER THE INPUT: true; the input reads as it did. -/
def fnExactCheckProofSpec : ChangeSpec := { name := "fnExactCheckProof", fn := fun _ => fun
  | [d1, d2, d3, d4] => { results := [.lit (.bool true)], args := [d1, d2, d3, d4] }
  | _ => none }
def fnExactCheckProofRow : OpenClaim := { program := "ytnjedojmdcpcaaagreat", sum := "66fab15f8562008c224d0358623f6f272827253bb0ddf397837146eb25da6561", func := "loop.example/g00517/laws.FnExactCheckProof", spec := "fnExactCheckProof", unfollowed := true, recurses := true, loops := true, apart := false }
def FnExactCheckProofSaid : Prop := fnExactCheckProofRow.holds Tryz.pinned (OpenSpec.ofChange fnExactCheckProofSpec)

/-- ITS FALSE NEIGHBOUR: 'it returns false'. Refute it at one input. -/
def fnExactCheckProofWrong : ChangeSpec := { name := "fnExactCheckProof", fn := fun _ => fun
  | [d1, d2, d3, d4] => { results := [.lit (.bool false)], args := [d1, d2, d3, d4] }
  | _ => none }
def FnExactCheckProofWrongFalsely : Prop := fnExactCheckProofRow.holds Tryz.pinned (OpenSpec.ofChange fnExactCheckProofWrong)

/-- 'laws.FnExactCheckAll': WHATEVER THE INPUT: true; the input reads as it did. -/
def fnExactCheckAllSpec : ChangeSpec := { name := "fnExactCheckAll", fn := fun _ => fun
  | [d1, d2, d3] => { results := [.lit (.bool true)], args := [d1, d2, d3] }
  | _ => none }
def fnExactCheckAllRow : OpenClaim := { program := "ytnjedojmdcpcaaagreat", sum := "66fab15f8562008c224d0358623f6f272827253bb0ddf397837146eb25da6561", func := "loop.example/g00517/laws.FnExactCheckAll", spec := "fnExactCheckAll", unfollowed := true, recurses := true, loops := true, apart := false }
def FnExactCheckAllSaid : Prop := fnExactCheckAllRow.holds Tryz.pinned (OpenSpec.ofChange fnExactCheckAllSpec)

/-- ITS FALSE NEIGHBOUR: 'it returns false'. Refute it at one input. -/
def fnExactCheckAllWrong : ChangeSpec := { name := "fnExactCheckAll", fn := fun _ => fun
  | [d1, d2, d3] => { results := [.lit (.bool false)], args := [d1, d2, d3] }
  | _ => none }
def FnExactCheckAllWrongFalsely : Prop := fnExactCheckAllRow.holds Tryz.pinned (OpenSpec.ofChange fnExactCheckAllWrong)

/-- 'laws.FnExactCheckVerdict': WHATEVER THE INPUT: true; the input reads as it did. -/
def fnExactCheckVerdictSpec : ChangeSpec := { name := "fnExactCheckVerdict", fn := fun _ => fun
  | [d1, d2, d3] => { results := [.lit (.bool true)], args := [d1, d2, d3] }
  | _ => none }
def fnExactCheckVerdictRow : OpenClaim := { program := "ytnjedojmdcpcaaagreat", sum := "66fab15f8562008c224d0358623f6f272827253bb0ddf397837146eb25da6561", func := "loop.example/g00517/laws.FnExactCheckVerdict", spec := "fnExactCheckVerdict", unfollowed := true, recurses := true, loops := true, apart := false }
def FnExactCheckVerdictSaid : Prop := fnExactCheckVerdictRow.holds Tryz.pinned (OpenSpec.ofChange fnExactCheckVerdictSpec)

/-- ITS FALSE NEIGHBOUR: 'it returns false'. Refute it at one input. -/
def fnExactCheckVerdictWrong : ChangeSpec := { name := "fnExactCheckVerdict", fn := fun _ => fun
  | [d1, d2, d3] => { results := [.lit (.bool false)], args := [d1, d2, d3] }
  | _ => none }
def FnExactCheckVerdictWrongFalsely : Prop := fnExactCheckVerdictRow.holds Tryz.pinned (OpenSpec.ofChange fnExactCheckVerdictWrong)

/-- 'laws.FnExactFindProof': WHATEVER THE INPUT: true; the input reads as it did. -/
def fnExactFindProofSpec : ChangeSpec := { name := "fnExactFindProof", fn := fun _ => fun
  | [d1, d2, d3] => { results := [.lit (.bool true)], args := [d1, d2, d3] }
  | _ => none }
def fnExactFindProofRow : OpenClaim := { program := "ytnjedojmdcpcaaagreat", sum := "66fab15f8562008c224d0358623f6f272827253bb0ddf397837146eb25da6561", func := "loop.example/g00517/laws.FnExactFindProof", spec := "fnExactFindProof", unfollowed := true, recurses := true, loops := true, apart := false }
def FnExactFindProofSaid : Prop := fnExactFindProofRow.holds Tryz.pinned (OpenSpec.ofChange fnExactFindProofSpec)

/-- ITS FALSE NEIGHBOUR: 'it returns false'. Refute it at one input. -/
def fnExactFindProofWrong : ChangeSpec := { name := "fnExactFindProof", fn := fun _ => fun
  | [d1, d2, d3] => { results := [.lit (.bool false)], args := [d1, d2, d3] }
  | _ => none }
def FnExactFindProofWrongFalsely : Prop := fnExactFindProofRow.holds Tryz.pinned (OpenSpec.ofChange fnExactFindProofWrong)

/-- 'laws.FnExactProveAll': WHATEVER THE INPUT: true; the input reads as it did. -/
def fnExactProveAllSpec : ChangeSpec := { name := "fnExactProveAll", fn := fun _ => fun
  | [d1, d2] => { results := [.lit (.bool true)], args := [d1, d2] }
  | _ => none }
def fnExactProveAllRow : OpenClaim := { program := "ytnjedojmdcpcaaagreat", sum := "66fab15f8562008c224d0358623f6f272827253bb0ddf397837146eb25da6561", func := "loop.example/g00517/laws.FnExactProveAll", spec := "fnExactProveAll", unfollowed := true, recurses := true, loops := true, apart := false }
def FnExactProveAllSaid : Prop := fnExactProveAllRow.holds Tryz.pinned (OpenSpec.ofChange fnExactProveAllSpec)

/-- ITS FALSE NEIGHBOUR: 'it returns false'. Refute it at one input. -/
def fnExactProveAllWrong : ChangeSpec := { name := "fnExactProveAll", fn := fun _ => fun
  | [d1, d2] => { results := [.lit (.bool false)], args := [d1, d2] }
  | _ => none }
def FnExactProveAllWrongFalsely : Prop := fnExactProveAllRow.holds Tryz.pinned (OpenSpec.ofChange fnExactProveAllWrong)

/-- 'laws.FnExactVerifyClaims': WHATEVER THE INPUT: true; the input reads as it did. -/
def fnExactVerifyClaimsSpec : ChangeSpec := { name := "fnExactVerifyClaims", fn := fun _ => fun
  | [d1, d2] => { results := [.lit (.bool true)], args := [d1, d2] }
  | _ => none }
def fnExactVerifyClaimsRow : OpenClaim := { program := "ytnjedojmdcpcaaagreat", sum := "66fab15f8562008c224d0358623f6f272827253bb0ddf397837146eb25da6561", func := "loop.example/g00517/laws.FnExactVerifyClaims", spec := "fnExactVerifyClaims", unfollowed := true, recurses := true, loops := true, apart := false }
def FnExactVerifyClaimsSaid : Prop := fnExactVerifyClaimsRow.holds Tryz.pinned (OpenSpec.ofChange fnExactVerifyClaimsSpec)

/-- ITS FALSE NEIGHBOUR: 'it returns false'. Refute it at one input. -/
def fnExactVerifyClaimsWrong : ChangeSpec := { name := "fnExactVerifyClaims", fn := fun _ => fun
  | [d1, d2] => { results := [.lit (.bool false)], args := [d1, d2] }
  | _ => none }
def FnExactVerifyClaimsWrongFalsely : Prop := fnExactVerifyClaimsRow.holds Tryz.pinned (OpenSpec.ofChange fnExactVerifyClaimsWrong)

/- THE SECOND FORM. 'bulk': how many values and letters a reading holds, each counted each time it is reached (what is shared counts as often as it is met; a slice's spare places count too). A statement '..UptoSaid' is the law's where the arguments, and the package variables that the reading takes, are together of bulk at most 1048576: NARROWER than '..Said'. Prove '..Said' where nothing that the law and all that it calls make is longer than what came in: it says more and counts as full. Else prove '..UptoSaid'. A law counts once. -/
mutual
def uptoBulk {H : Type} : DataW H → Nat
  | .lit (.string bytes) => bytes.length + 1
  | .lit _ => 1
  | .nil => 1
  | .ptr d => uptoBulk d + 1
  | .slice elems spare => uptoBulkAll elems + uptoBulkAll spare + 1
  | .agg parts => uptoBulkAll parts + 1
  | .iface _ d => uptoBulk d + 1
  | .map entries => uptoBulkEntries entries + 1
  | .held _ => 1
def uptoBulkAll {H : Type} : List (DataW H) → Nat
  | [] => 0
  | d :: r => uptoBulk d + uptoBulkAll r
def uptoBulkEntries {H : Type} : List (Lit × DataW H) → Nat
  | [] => 0
  | x :: r => uptoBulkEntry x + uptoBulkEntries r
def uptoBulkEntry {H : Type} : Lit × DataW H → Nat
  | (.string bytes, d) => bytes.length + uptoBulk d + 1
  | (_, d) => uptoBulk d + 1
 end
def uptoSmall : (H : Type) → List (DataW H) → Bool := fun _ ds => decide (uptoBulkAll ds ≤ 1048576)
def OpenSpec.upto (s : _root_.Go.ChangeSpec) : _root_.Go.OpenSpec := { _root_.Go.OpenSpec.ofChange s with cond := some uptoSmall }

/-- 'laws.FnExactIsDecided', WHERE WHAT IT READS IS OF BULK AT MOST 1048576: true; the input reads as it did. -/
def fnExactIsDecidedUptoRow : OpenClaim := { program := "ytnjedojmdcpcaaagreat", sum := "66fab15f8562008c224d0358623f6f272827253bb0ddf397837146eb25da6561", func := "loop.example/g00517/laws.FnExactIsDecided", spec := "fnExactIsDecided", unfollowed := true, recurses := true, loops := true, apart := false, narrowed := true }
def FnExactIsDecidedUptoSaid : Prop := fnExactIsDecidedUptoRow.holds Tryz.pinned (OpenSpec.upto fnExactIsDecidedSpec)

/-- 'laws.FnExactStepSymbolic', WHERE WHAT IT READS IS OF BULK AT MOST 1048576: true; the input reads as it did. -/
def fnExactStepSymbolicUptoRow : OpenClaim := { program := "ytnjedojmdcpcaaagreat", sum := "66fab15f8562008c224d0358623f6f272827253bb0ddf397837146eb25da6561", func := "loop.example/g00517/laws.FnExactStepSymbolic", spec := "fnExactStepSymbolic", unfollowed := true, recurses := true, loops := true, apart := false, narrowed := true }
def FnExactStepSymbolicUptoSaid : Prop := fnExactStepSymbolicUptoRow.holds Tryz.pinned (OpenSpec.upto fnExactStepSymbolicSpec)

/-- 'laws.FnExactBranchesOf', WHERE WHAT IT READS IS OF BULK AT MOST 1048576: true; the input reads as it did. -/
def fnExactBranchesOfUptoRow : OpenClaim := { program := "ytnjedojmdcpcaaagreat", sum := "66fab15f8562008c224d0358623f6f272827253bb0ddf397837146eb25da6561", func := "loop.example/g00517/laws.FnExactBranchesOf", spec := "fnExactBranchesOf", unfollowed := true, recurses := true, loops := true, apart := false, narrowed := true }
def FnExactBranchesOfUptoSaid : Prop := fnExactBranchesOfUptoRow.holds Tryz.pinned (OpenSpec.upto fnExactBranchesOfSpec)

/-- 'laws.FnExactPathsOf', WHERE WHAT IT READS IS OF BULK AT MOST 1048576: true; the input reads as it did. -/
def fnExactPathsOfUptoRow : OpenClaim := { program := "ytnjedojmdcpcaaagreat", sum := "66fab15f8562008c224d0358623f6f272827253bb0ddf397837146eb25da6561", func := "loop.example/g00517/laws.FnExactPathsOf", spec := "fnExactPathsOf", unfollowed := true, recurses := true, loops := true, apart := false, narrowed := true }
def FnExactPathsOfUptoSaid : Prop := fnExactPathsOfUptoRow.holds Tryz.pinned (OpenSpec.upto fnExactPathsOfSpec)

/-- 'laws.FnExactTestsOf', WHERE WHAT IT READS IS OF BULK AT MOST 1048576: true; the input reads as it did. -/
def fnExactTestsOfUptoRow : OpenClaim := { program := "ytnjedojmdcpcaaagreat", sum := "66fab15f8562008c224d0358623f6f272827253bb0ddf397837146eb25da6561", func := "loop.example/g00517/laws.FnExactTestsOf", spec := "fnExactTestsOf", unfollowed := true, recurses := true, loops := true, apart := false, narrowed := true }
def FnExactTestsOfUptoSaid : Prop := fnExactTestsOfUptoRow.holds Tryz.pinned (OpenSpec.upto fnExactTestsOfSpec)

/-- 'laws.FnExactCheckProof', WHERE WHAT IT READS IS OF BULK AT MOST 1048576: true; the input reads as it did. -/
def fnExactCheckProofUptoRow : OpenClaim := { program := "ytnjedojmdcpcaaagreat", sum := "66fab15f8562008c224d0358623f6f272827253bb0ddf397837146eb25da6561", func := "loop.example/g00517/laws.FnExactCheckProof", spec := "fnExactCheckProof", unfollowed := true, recurses := true, loops := true, apart := false, narrowed := true }
def FnExactCheckProofUptoSaid : Prop := fnExactCheckProofUptoRow.holds Tryz.pinned (OpenSpec.upto fnExactCheckProofSpec)

/-- 'laws.FnExactCheckAll', WHERE WHAT IT READS IS OF BULK AT MOST 1048576: true; the input reads as it did. -/
def fnExactCheckAllUptoRow : OpenClaim := { program := "ytnjedojmdcpcaaagreat", sum := "66fab15f8562008c224d0358623f6f272827253bb0ddf397837146eb25da6561", func := "loop.example/g00517/laws.FnExactCheckAll", spec := "fnExactCheckAll", unfollowed := true, recurses := true, loops := true, apart := false, narrowed := true }
def FnExactCheckAllUptoSaid : Prop := fnExactCheckAllUptoRow.holds Tryz.pinned (OpenSpec.upto fnExactCheckAllSpec)

/-- 'laws.FnExactCheckVerdict', WHERE WHAT IT READS IS OF BULK AT MOST 1048576: true; the input reads as it did. -/
def fnExactCheckVerdictUptoRow : OpenClaim := { program := "ytnjedojmdcpcaaagreat", sum := "66fab15f8562008c224d0358623f6f272827253bb0ddf397837146eb25da6561", func := "loop.example/g00517/laws.FnExactCheckVerdict", spec := "fnExactCheckVerdict", unfollowed := true, recurses := true, loops := true, apart := false, narrowed := true }
def FnExactCheckVerdictUptoSaid : Prop := fnExactCheckVerdictUptoRow.holds Tryz.pinned (OpenSpec.upto fnExactCheckVerdictSpec)

/-- 'laws.FnExactFindProof', WHERE WHAT IT READS IS OF BULK AT MOST 1048576: true; the input reads as it did. -/
def fnExactFindProofUptoRow : OpenClaim := { program := "ytnjedojmdcpcaaagreat", sum := "66fab15f8562008c224d0358623f6f272827253bb0ddf397837146eb25da6561", func := "loop.example/g00517/laws.FnExactFindProof", spec := "fnExactFindProof", unfollowed := true, recurses := true, loops := true, apart := false, narrowed := true }
def FnExactFindProofUptoSaid : Prop := fnExactFindProofUptoRow.holds Tryz.pinned (OpenSpec.upto fnExactFindProofSpec)

/-- 'laws.FnExactProveAll', WHERE WHAT IT READS IS OF BULK AT MOST 1048576: true; the input reads as it did. -/
def fnExactProveAllUptoRow : OpenClaim := { program := "ytnjedojmdcpcaaagreat", sum := "66fab15f8562008c224d0358623f6f272827253bb0ddf397837146eb25da6561", func := "loop.example/g00517/laws.FnExactProveAll", spec := "fnExactProveAll", unfollowed := true, recurses := true, loops := true, apart := false, narrowed := true }
def FnExactProveAllUptoSaid : Prop := fnExactProveAllUptoRow.holds Tryz.pinned (OpenSpec.upto fnExactProveAllSpec)

/-- 'laws.FnExactVerifyClaims', WHERE WHAT IT READS IS OF BULK AT MOST 1048576: true; the input reads as it did. -/
def fnExactVerifyClaimsUptoRow : OpenClaim := { program := "ytnjedojmdcpcaaagreat", sum := "66fab15f8562008c224d0358623f6f272827253bb0ddf397837146eb25da6561", func := "loop.example/g00517/laws.FnExactVerifyClaims", spec := "fnExactVerifyClaims", unfollowed := true, recurses := true, loops := true, apart := false, narrowed := true }
def FnExactVerifyClaimsUptoSaid : Prop := fnExactVerifyClaimsUptoRow.holds Tryz.pinned (OpenSpec.upto fnExactVerifyClaimsSpec)

end Rows
end Go.Proofs.YtnjedojmdcpcaaaGreat
