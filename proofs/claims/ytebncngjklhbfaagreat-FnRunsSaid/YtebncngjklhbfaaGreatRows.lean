/-
  No cell of these rows narrows 'for every input' (looked for: loops, veiled, ifaces, maps, wideKeys, modest, calm, conditions, laid).
  DERIVED. THE GIVEN ROWS OF THIS SEAT. 4 by the template 'for every input the law returns true; each argument reads behind the call as it read before'; 0 by the template 'total and deterministic' (their statements: YtebncngjklhbfaaGreatTotals.lean).
  GIVEN WITH THE SEED: the statements are not yours to turn. If you find one false, say at which input.
  Laid BY PROGRAM, IN A SANDBOX (cutbox-rows.mjs): the forced cells as the released guide's own fill.sh prints them over the translation 2576cfd6c3e12bdf… (all of the seat's roots in one cut). By AI agents, Wed Nov 11 2026. No macro, syntax, notation, axiom, sorry.
-/
import Derived.Test.YtebncngjklhbfaaGreatChecked
import GoSem.Claim
import GoSem.ClaimJoined
import GoSem.ClaimMapViews
import Derived.JoinedTies
import Derived.KernelRfl
namespace Go.Proofs.YtebncngjklhbfaaGreat
/- THE CELL 'sum', in the pinned program and in every row, IS THE sha256 OF THE DUMP (.gsa) THAT YtebncngjklhbfaaGreatProg.lean LOADS. Nothing in Lean hashes anything: it is a label: what it is worth is what the hold of that sum in a sandbox is worth. -/
noncomputable def Tryz.pinned : Pinned := { name := "ytebncngjklhbfaagreat", sum := "2576cfd6c3e12bdfb42948f66686ddd29e1e5ab6e77af55cdbae3d20fd2c03fd", checked := Tryz.checked }
namespace Rows
def none {H : Type} : Left H := { results := [], args := [] }

/-- 'laws.FnTranslated': WHATEVER THE INPUT: true; the input reads as it did. -/
def fnTranslatedSpec : ChangeSpec := { name := "fnTranslated", fn := fun _ => fun
  | [d] => { results := [.lit (.bool true)], args := [d] }
  | _ => none }
def fnTranslatedRow : OpenClaim := { program := "ytebncngjklhbfaagreat", sum := "2576cfd6c3e12bdfb42948f66686ddd29e1e5ab6e77af55cdbae3d20fd2c03fd", func := "loop.example/g00517/laws.FnTranslated", spec := "fnTranslated", unfollowed := true, recurses := true, apart := false }
def FnTranslatedSaid : Prop := fnTranslatedRow.holds Tryz.pinned (OpenSpec.ofChange fnTranslatedSpec)

/-- ITS FALSE NEIGHBOUR: 'it returns false'. Refute it at one input. -/
def fnTranslatedWrong : ChangeSpec := { name := "fnTranslated", fn := fun _ => fun
  | [d] => { results := [.lit (.bool false)], args := [d] }
  | _ => none }
def FnTranslatedWrongFalsely : Prop := fnTranslatedRow.holds Tryz.pinned (OpenSpec.ofChange fnTranslatedWrong)

/-- 'laws.FnRuns': WHATEVER THE INPUT: true; the input reads as it did. -/
def fnRunsSpec : ChangeSpec := { name := "fnRuns", fn := fun _ => fun
  | [d] => { results := [.lit (.bool true)], args := [d] }
  | _ => none }
def fnRunsRow : OpenClaim := { program := "ytebncngjklhbfaagreat", sum := "2576cfd6c3e12bdfb42948f66686ddd29e1e5ab6e77af55cdbae3d20fd2c03fd", func := "loop.example/g00517/laws.FnRuns", spec := "fnRuns", unfollowed := true, recurses := true, apart := false }
def FnRunsSaid : Prop := fnRunsRow.holds Tryz.pinned (OpenSpec.ofChange fnRunsSpec)

/-- ITS FALSE NEIGHBOUR: 'it returns false'. Refute it at one input. -/
def fnRunsWrong : ChangeSpec := { name := "fnRuns", fn := fun _ => fun
  | [d] => { results := [.lit (.bool false)], args := [d] }
  | _ => none }
def FnRunsWrongFalsely : Prop := fnRunsRow.holds Tryz.pinned (OpenSpec.ofChange fnRunsWrong)

/-- 'laws.FnReplayed': WHATEVER THE INPUT: true; the input reads as it did. -/
def fnReplayedSpec : ChangeSpec := { name := "fnReplayed", fn := fun _ => fun
  | [d] => { results := [.lit (.bool true)], args := [d] }
  | _ => none }
def fnReplayedRow : OpenClaim := { program := "ytebncngjklhbfaagreat", sum := "2576cfd6c3e12bdfb42948f66686ddd29e1e5ab6e77af55cdbae3d20fd2c03fd", func := "loop.example/g00517/laws.FnReplayed", spec := "fnReplayed", unfollowed := true, recurses := true, apart := false }
def FnReplayedSaid : Prop := fnReplayedRow.holds Tryz.pinned (OpenSpec.ofChange fnReplayedSpec)

/-- ITS FALSE NEIGHBOUR: 'it returns false'. Refute it at one input. -/
def fnReplayedWrong : ChangeSpec := { name := "fnReplayed", fn := fun _ => fun
  | [d] => { results := [.lit (.bool false)], args := [d] }
  | _ => none }
def FnReplayedWrongFalsely : Prop := fnReplayedRow.holds Tryz.pinned (OpenSpec.ofChange fnReplayedWrong)

/-- 'laws.FnCompared': WHATEVER THE INPUT: true; the input reads as it did. -/
def fnComparedSpec : ChangeSpec := { name := "fnCompared", fn := fun _ => fun
  | [d] => { results := [.lit (.bool true)], args := [d] }
  | _ => none }
def fnComparedRow : OpenClaim := { program := "ytebncngjklhbfaagreat", sum := "2576cfd6c3e12bdfb42948f66686ddd29e1e5ab6e77af55cdbae3d20fd2c03fd", func := "loop.example/g00517/laws.FnCompared", spec := "fnCompared", unfollowed := true, recurses := true, apart := false }
def FnComparedSaid : Prop := fnComparedRow.holds Tryz.pinned (OpenSpec.ofChange fnComparedSpec)

/-- ITS FALSE NEIGHBOUR: 'it returns false'. Refute it at one input. -/
def fnComparedWrong : ChangeSpec := { name := "fnCompared", fn := fun _ => fun
  | [d] => { results := [.lit (.bool false)], args := [d] }
  | _ => none }
def FnComparedWrongFalsely : Prop := fnComparedRow.holds Tryz.pinned (OpenSpec.ofChange fnComparedWrong)

/- THE SECOND FORM. 'bulk': how many values and letters a reading holds, each counted each time it is reached (what is shared counts as often as it is met; a slice's spare places count too). A statement '..UptoSaid' is the law's where the arguments, and the package variables that the reading takes, are together of bulk at most 1048576: NARROWER than '..Said'. Prove '..Said' where nothing that the law and all that it calls make is longer than what came in: it says more and counts as full. Else prove '..UptoSaid'. A law counts once. -/
mutual
def uptoBulk {H : Type} : DataW H → Nat
  | .lit (.string bytes) => bytes.length + 1
  | .lit _ => 1
  | .nil => 1
  | .ptr d => uptoBulk d + 1
  | .slice elems spare => uptoBulkAll elems + uptoBulkAll spare + 1
  | .agg parts => uptoBulkAll parts + 1
  | .iface _ d => uptoBulk d + 1
  | .map entries => uptoBulkEntries entries + 1
  | .held _ => 1
def uptoBulkAll {H : Type} : List (DataW H) → Nat
  | [] => 0
  | d :: r => uptoBulk d + uptoBulkAll r
def uptoBulkEntries {H : Type} : List (Lit × DataW H) → Nat
  | [] => 0
  | x :: r => uptoBulkEntry x + uptoBulkEntries r
def uptoBulkEntry {H : Type} : Lit × DataW H → Nat
  | (.string bytes, d) => bytes.length + uptoBulk d + 1
  | (_, d) => uptoBulk d + 1
 end
def uptoSmall : (H : Type) → List (DataW H) → Bool := fun _ ds => decide (uptoBulkAll ds ≤ 1048576)
def OpenSpec.upto (s : _root_.Go.ChangeSpec) : _root_.Go.OpenSpec := { _root_.Go.OpenSpec.ofChange s with cond := some uptoSmall }

/-- 'laws.FnTranslated', WHERE WHAT IT READS IS OF BULK AT MOST 1048576: true; the input reads as it did. -/
def fnTranslatedUptoRow : OpenClaim := { program := "ytebncngjklhbfaagreat", sum := "2576cfd6c3e12bdfb42948f66686ddd29e1e5ab6e77af55cdbae3d20fd2c03fd", func := "loop.example/g00517/laws.FnTranslated", spec := "fnTranslated", unfollowed := true, recurses := true, apart := false, narrowed := true }
def FnTranslatedUptoSaid : Prop := fnTranslatedUptoRow.holds Tryz.pinned (OpenSpec.upto fnTranslatedSpec)

/-- 'laws.FnRuns', WHERE WHAT IT READS IS OF BULK AT MOST 1048576: true; the input reads as it did. -/
def fnRunsUptoRow : OpenClaim := { program := "ytebncngjklhbfaagreat", sum := "2576cfd6c3e12bdfb42948f66686ddd29e1e5ab6e77af55cdbae3d20fd2c03fd", func := "loop.example/g00517/laws.FnRuns", spec := "fnRuns", unfollowed := true, recurses := true, apart := false, narrowed := true }
def FnRunsUptoSaid : Prop := fnRunsUptoRow.holds Tryz.pinned (OpenSpec.upto fnRunsSpec)

/-- 'laws.FnReplayed', WHERE WHAT IT READS IS OF BULK AT MOST 1048576: true; the input reads as it did. -/
def fnReplayedUptoRow : OpenClaim := { program := "ytebncngjklhbfaagreat", sum := "2576cfd6c3e12bdfb42948f66686ddd29e1e5ab6e77af55cdbae3d20fd2c03fd", func := "loop.example/g00517/laws.FnReplayed", spec := "fnReplayed", unfollowed := true, recurses := true, apart := false, narrowed := true }
def FnReplayedUptoSaid : Prop := fnReplayedUptoRow.holds Tryz.pinned (OpenSpec.upto fnReplayedSpec)

/-- 'laws.FnCompared', WHERE WHAT IT READS IS OF BULK AT MOST 1048576: true; the input reads as it did. -/
def fnComparedUptoRow : OpenClaim := { program := "ytebncngjklhbfaagreat", sum := "2576cfd6c3e12bdfb42948f66686ddd29e1e5ab6e77af55cdbae3d20fd2c03fd", func := "loop.example/g00517/laws.FnCompared", spec := "fnCompared", unfollowed := true, recurses := true, apart := false, narrowed := true }
def FnComparedUptoSaid : Prop := fnComparedUptoRow.holds Tryz.pinned (OpenSpec.upto fnComparedSpec)

end Rows
end Go.Proofs.YtebncngjklhbfaaGreat
