/-
  NARROWER THAN 'FOR EVERY INPUT', by the rows' own cells (each row's printed sentence says how): FnExactContainsOp: loops · FnExactEqualClaim: loops · FnExactEqualProof: loops · FnExactMapCase: loops · FnExactEqualVerdict: loops.
  DERIVED. THE GIVEN ROWS OF THIS SEAT. 7 by the template 'for every input the law returns true; each argument reads behind the call as it read before'; 0 by the template 'total and deterministic' (their statements: YtmahppdampmpfaaTotals.lean).
  GIVEN WITH THE SEED: the statements are not yours to turn. If you find one false, say at which input.
  Laid BY PROGRAM, IN A SANDBOX (cutbox-rows.mjs): the forced cells as the released guide's own fill.sh prints them over the translation 4e2585a51b26302f… (all of the seat's roots in one cut). By AI agents, Wed Nov 11 2026. No macro, syntax, notation, axiom, sorry.
-/
import Derived.Test.YtmahppdampmpfaaChecked
import GoSem.Claim
import GoSem.ClaimJoined
import GoSem.ClaimMapViews
import Derived.JoinedTies
import Derived.KernelRfl
namespace Go.Proofs.Ytmahppdampmpfaa
/- THE CELL 'sum', in the pinned program and in every row, IS THE sha256 OF THE DUMP (.gsa) THAT YtmahppdampmpfaaProg.lean LOADS. Nothing in Lean hashes anything: it is a label: what it is worth is what the hold of that sum in a sandbox is worth. -/
noncomputable def Try.pinned : Pinned := { name := "ytmahppdampmpfaa", sum := "4e2585a51b26302f5eb0768eef16a166400539685c0a23efe234243982f3b462", checked := Try.checked }
namespace Rows
def none {H : Type} : Left H := { results := [], args := [] }

/-- 'laws.FnExactVerdictName': WHATEVER THE INPUT: true; the input reads as it did. -/
def fnExactVerdictNameSpec : ChangeSpec := { name := "fnExactVerdictName", fn := fun _ => fun
  | [d] => { results := [.lit (.bool true)], args := [d] }
  | _ => none }
def fnExactVerdictNameRow : OpenClaim := { program := "ytmahppdampmpfaa", sum := "4e2585a51b26302f5eb0768eef16a166400539685c0a23efe234243982f3b462", func := "loop.example/g00517/laws.FnExactVerdictName", spec := "fnExactVerdictName", apart := false }
def FnExactVerdictNameSaid : Prop := fnExactVerdictNameRow.holds Try.pinned (OpenSpec.ofChange fnExactVerdictNameSpec)

/-- ITS FALSE NEIGHBOUR: 'it returns false'. Refute it at one input. -/
def fnExactVerdictNameWrong : ChangeSpec := { name := "fnExactVerdictName", fn := fun _ => fun
  | [d] => { results := [.lit (.bool false)], args := [d] }
  | _ => none }
def FnExactVerdictNameWrongFalsely : Prop := fnExactVerdictNameRow.holds Try.pinned (OpenSpec.ofChange fnExactVerdictNameWrong)

/-- 'laws.FnExactLanguageOf': WHATEVER THE INPUT: true; the input reads as it did. -/
def fnExactLanguageOfSpec : ChangeSpec := { name := "fnExactLanguageOf", fn := fun _ => fun
  | [d] => { results := [.lit (.bool true)], args := [d] }
  | _ => none }
def fnExactLanguageOfRow : OpenClaim := { program := "ytmahppdampmpfaa", sum := "4e2585a51b26302f5eb0768eef16a166400539685c0a23efe234243982f3b462", func := "loop.example/g00517/laws.FnExactLanguageOf", spec := "fnExactLanguageOf", apart := false }
def FnExactLanguageOfSaid : Prop := fnExactLanguageOfRow.holds Try.pinned (OpenSpec.ofChange fnExactLanguageOfSpec)

/-- ITS FALSE NEIGHBOUR: 'it returns false'. Refute it at one input. -/
def fnExactLanguageOfWrong : ChangeSpec := { name := "fnExactLanguageOf", fn := fun _ => fun
  | [d] => { results := [.lit (.bool false)], args := [d] }
  | _ => none }
def FnExactLanguageOfWrongFalsely : Prop := fnExactLanguageOfRow.holds Try.pinned (OpenSpec.ofChange fnExactLanguageOfWrong)

/-- 'laws.FnExactContainsOp': WHATEVER THE INPUT: true; the input reads as it did. -/
def fnExactContainsOpSpec : ChangeSpec := { name := "fnExactContainsOp", fn := fun _ => fun
  | [d1, d2] => { results := [.lit (.bool true)], args := [d1, d2] }
  | _ => none }
def fnExactContainsOpRow : OpenClaim := { program := "ytmahppdampmpfaa", sum := "4e2585a51b26302f5eb0768eef16a166400539685c0a23efe234243982f3b462", func := "loop.example/g00517/laws.FnExactContainsOp", spec := "fnExactContainsOp", unfollowed := true, recurses := true, loops := true, apart := false }
def FnExactContainsOpSaid : Prop := fnExactContainsOpRow.holds Try.pinned (OpenSpec.ofChange fnExactContainsOpSpec)

/-- ITS FALSE NEIGHBOUR: 'it returns false'. Refute it at one input. -/
def fnExactContainsOpWrong : ChangeSpec := { name := "fnExactContainsOp", fn := fun _ => fun
  | [d1, d2] => { results := [.lit (.bool false)], args := [d1, d2] }
  | _ => none }
def FnExactContainsOpWrongFalsely : Prop := fnExactContainsOpRow.holds Try.pinned (OpenSpec.ofChange fnExactContainsOpWrong)

/-- 'laws.FnExactEqualClaim': WHATEVER THE INPUT: true; the input reads as it did. -/
def fnExactEqualClaimSpec : ChangeSpec := { name := "fnExactEqualClaim", fn := fun _ => fun
  | [d1, d2] => { results := [.lit (.bool true)], args := [d1, d2] }
  | _ => none }
def fnExactEqualClaimRow : OpenClaim := { program := "ytmahppdampmpfaa", sum := "4e2585a51b26302f5eb0768eef16a166400539685c0a23efe234243982f3b462", func := "loop.example/g00517/laws.FnExactEqualClaim", spec := "fnExactEqualClaim", unfollowed := true, recurses := true, loops := true, apart := false }
def FnExactEqualClaimSaid : Prop := fnExactEqualClaimRow.holds Try.pinned (OpenSpec.ofChange fnExactEqualClaimSpec)

/-- ITS FALSE NEIGHBOUR: 'it returns false'. Refute it at one input. -/
def fnExactEqualClaimWrong : ChangeSpec := { name := "fnExactEqualClaim", fn := fun _ => fun
  | [d1, d2] => { results := [.lit (.bool false)], args := [d1, d2] }
  | _ => none }
def FnExactEqualClaimWrongFalsely : Prop := fnExactEqualClaimRow.holds Try.pinned (OpenSpec.ofChange fnExactEqualClaimWrong)

/-- 'laws.FnExactEqualProof': WHATEVER THE INPUT: true; the input reads as it did. -/
def fnExactEqualProofSpec : ChangeSpec := { name := "fnExactEqualProof", fn := fun _ => fun
  | [d1, d2] => { results := [.lit (.bool true)], args := [d1, d2] }
  | _ => none }
def fnExactEqualProofRow : OpenClaim := { program := "ytmahppdampmpfaa", sum := "4e2585a51b26302f5eb0768eef16a166400539685c0a23efe234243982f3b462", func := "loop.example/g00517/laws.FnExactEqualProof", spec := "fnExactEqualProof", unfollowed := true, recurses := true, loops := true, apart := false }
def FnExactEqualProofSaid : Prop := fnExactEqualProofRow.holds Try.pinned (OpenSpec.ofChange fnExactEqualProofSpec)

/-- ITS FALSE NEIGHBOUR: 'it returns false'. Refute it at one input. -/
def fnExactEqualProofWrong : ChangeSpec := { name := "fnExactEqualProof", fn := fun _ => fun
  | [d1, d2] => { results := [.lit (.bool false)], args := [d1, d2] }
  | _ => none }
def FnExactEqualProofWrongFalsely : Prop := fnExactEqualProofRow.holds Try.pinned (OpenSpec.ofChange fnExactEqualProofWrong)

/-- 'laws.FnExactMapCase': WHATEVER THE INPUT: true; the input reads as it did. -/
def fnExactMapCaseSpec : ChangeSpec := { name := "fnExactMapCase", fn := fun _ => fun
  | [d1, d2, d3, d4] => { results := [.lit (.bool true)], args := [d1, d2, d3, d4] }
  | _ => none }
def fnExactMapCaseRow : OpenClaim := { program := "ytmahppdampmpfaa", sum := "4e2585a51b26302f5eb0768eef16a166400539685c0a23efe234243982f3b462", func := "loop.example/g00517/laws.FnExactMapCase", spec := "fnExactMapCase", recurses := true, loops := true, apart := false }
def FnExactMapCaseSaid : Prop := fnExactMapCaseRow.holds Try.pinned (OpenSpec.ofChange fnExactMapCaseSpec)

/-- ITS FALSE NEIGHBOUR: 'it returns false'. Refute it at one input. -/
def fnExactMapCaseWrong : ChangeSpec := { name := "fnExactMapCase", fn := fun _ => fun
  | [d1, d2, d3, d4] => { results := [.lit (.bool false)], args := [d1, d2, d3, d4] }
  | _ => none }
def FnExactMapCaseWrongFalsely : Prop := fnExactMapCaseRow.holds Try.pinned (OpenSpec.ofChange fnExactMapCaseWrong)

/-- 'laws.FnExactEqualVerdict': WHATEVER THE INPUT: true; the input reads as it did. -/
def fnExactEqualVerdictSpec : ChangeSpec := { name := "fnExactEqualVerdict", fn := fun _ => fun
  | [d1, d2] => { results := [.lit (.bool true)], args := [d1, d2] }
  | _ => none }
def fnExactEqualVerdictRow : OpenClaim := { program := "ytmahppdampmpfaa", sum := "4e2585a51b26302f5eb0768eef16a166400539685c0a23efe234243982f3b462", func := "loop.example/g00517/laws.FnExactEqualVerdict", spec := "fnExactEqualVerdict", unfollowed := true, recurses := true, loops := true, apart := false }
def FnExactEqualVerdictSaid : Prop := fnExactEqualVerdictRow.holds Try.pinned (OpenSpec.ofChange fnExactEqualVerdictSpec)

/-- ITS FALSE NEIGHBOUR: 'it returns false'. Refute it at one input. -/
def fnExactEqualVerdictWrong : ChangeSpec := { name := "fnExactEqualVerdict", fn := fun _ => fun
  | [d1, d2] => { results := [.lit (.bool false)], args := [d1, d2] }
  | _ => none }
def FnExactEqualVerdictWrongFalsely : Prop := fnExactEqualVerdictRow.holds Try.pinned (OpenSpec.ofChange fnExactEqualVerdictWrong)

/- THE SECOND FORM. 'bulk': how many values and letters a reading holds, each counted each time it is reached (what is shared counts as often as it is met; a slice's spare places count too). A statement '..UptoSaid' is the law's where the arguments, and the package variables that the reading takes, are together of bulk at most 1048576: NARROWER than '..Said'. Prove '..Said' where nothing that the law and all that it calls make is longer than what came in: it says more and counts as full. Else prove '..UptoSaid'. A law counts once. -/
mutual
def uptoBulk {H : Type} : DataW H → Nat
  | .lit (.string bytes) => bytes.length + 1
  | .lit _ => 1
  | .nil => 1
  | .ptr d => uptoBulk d + 1
  | .slice elems spare => uptoBulkAll elems + uptoBulkAll spare + 1
  | .agg parts => uptoBulkAll parts + 1
  | .iface _ d => uptoBulk d + 1
  | .map entries => uptoBulkEntries entries + 1
  | .held _ => 1
def uptoBulkAll {H : Type} : List (DataW H) → Nat
  | [] => 0
  | d :: r => uptoBulk d + uptoBulkAll r
def uptoBulkEntries {H : Type} : List (Lit × DataW H) → Nat
  | [] => 0
  | x :: r => uptoBulkEntry x + uptoBulkEntries r
def uptoBulkEntry {H : Type} : Lit × DataW H → Nat
  | (.string bytes, d) => bytes.length + uptoBulk d + 1
  | (_, d) => uptoBulk d + 1
 end
def uptoSmall : (H : Type) → List (DataW H) → Bool := fun _ ds => decide (uptoBulkAll ds ≤ 1048576)
def OpenSpec.upto (s : _root_.Go.ChangeSpec) : _root_.Go.OpenSpec := { _root_.Go.OpenSpec.ofChange s with cond := some uptoSmall }

/-- 'laws.FnExactVerdictName', WHERE WHAT IT READS IS OF BULK AT MOST 1048576: true; the input reads as it did. -/
def fnExactVerdictNameUptoRow : OpenClaim := { program := "ytmahppdampmpfaa", sum := "4e2585a51b26302f5eb0768eef16a166400539685c0a23efe234243982f3b462", func := "loop.example/g00517/laws.FnExactVerdictName", spec := "fnExactVerdictName", apart := false, narrowed := true }
def FnExactVerdictNameUptoSaid : Prop := fnExactVerdictNameUptoRow.holds Try.pinned (OpenSpec.upto fnExactVerdictNameSpec)

/-- 'laws.FnExactLanguageOf', WHERE WHAT IT READS IS OF BULK AT MOST 1048576: true; the input reads as it did. -/
def fnExactLanguageOfUptoRow : OpenClaim := { program := "ytmahppdampmpfaa", sum := "4e2585a51b26302f5eb0768eef16a166400539685c0a23efe234243982f3b462", func := "loop.example/g00517/laws.FnExactLanguageOf", spec := "fnExactLanguageOf", apart := false, narrowed := true }
def FnExactLanguageOfUptoSaid : Prop := fnExactLanguageOfUptoRow.holds Try.pinned (OpenSpec.upto fnExactLanguageOfSpec)

/-- 'laws.FnExactContainsOp', WHERE WHAT IT READS IS OF BULK AT MOST 1048576: true; the input reads as it did. -/
def fnExactContainsOpUptoRow : OpenClaim := { program := "ytmahppdampmpfaa", sum := "4e2585a51b26302f5eb0768eef16a166400539685c0a23efe234243982f3b462", func := "loop.example/g00517/laws.FnExactContainsOp", spec := "fnExactContainsOp", unfollowed := true, recurses := true, loops := true, apart := false, narrowed := true }
def FnExactContainsOpUptoSaid : Prop := fnExactContainsOpUptoRow.holds Try.pinned (OpenSpec.upto fnExactContainsOpSpec)

/-- 'laws.FnExactEqualClaim', WHERE WHAT IT READS IS OF BULK AT MOST 1048576: true; the input reads as it did. -/
def fnExactEqualClaimUptoRow : OpenClaim := { program := "ytmahppdampmpfaa", sum := "4e2585a51b26302f5eb0768eef16a166400539685c0a23efe234243982f3b462", func := "loop.example/g00517/laws.FnExactEqualClaim", spec := "fnExactEqualClaim", unfollowed := true, recurses := true, loops := true, apart := false, narrowed := true }
def FnExactEqualClaimUptoSaid : Prop := fnExactEqualClaimUptoRow.holds Try.pinned (OpenSpec.upto fnExactEqualClaimSpec)

/-- 'laws.FnExactEqualProof', WHERE WHAT IT READS IS OF BULK AT MOST 1048576: true; the input reads as it did. -/
def fnExactEqualProofUptoRow : OpenClaim := { program := "ytmahppdampmpfaa", sum := "4e2585a51b26302f5eb0768eef16a166400539685c0a23efe234243982f3b462", func := "loop.example/g00517/laws.FnExactEqualProof", spec := "fnExactEqualProof", unfollowed := true, recurses := true, loops := true, apart := false, narrowed := true }
def FnExactEqualProofUptoSaid : Prop := fnExactEqualProofUptoRow.holds Try.pinned (OpenSpec.upto fnExactEqualProofSpec)

/-- 'laws.FnExactMapCase', WHERE WHAT IT READS IS OF BULK AT MOST 1048576: true; the input reads as it did. -/
def fnExactMapCaseUptoRow : OpenClaim := { program := "ytmahppdampmpfaa", sum := "4e2585a51b26302f5eb0768eef16a166400539685c0a23efe234243982f3b462", func := "loop.example/g00517/laws.FnExactMapCase", spec := "fnExactMapCase", recurses := true, loops := true, apart := false, narrowed := true }
def FnExactMapCaseUptoSaid : Prop := fnExactMapCaseUptoRow.holds Try.pinned (OpenSpec.upto fnExactMapCaseSpec)

/-- 'laws.FnExactEqualVerdict', WHERE WHAT IT READS IS OF BULK AT MOST 1048576: true; the input reads as it did. -/
def fnExactEqualVerdictUptoRow : OpenClaim := { program := "ytmahppdampmpfaa", sum := "4e2585a51b26302f5eb0768eef16a166400539685c0a23efe234243982f3b462", func := "loop.example/g00517/laws.FnExactEqualVerdict", spec := "fnExactEqualVerdict", unfollowed := true, recurses := true, loops := true, apart := false, narrowed := true }
def FnExactEqualVerdictUptoSaid : Prop := fnExactEqualVerdictUptoRow.holds Try.pinned (OpenSpec.upto fnExactEqualVerdictSpec)

end Rows
end Go.Proofs.Ytmahppdampmpfaa
