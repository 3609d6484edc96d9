/-
  DERIVED. GIVEN WITH THE SEED: THE CARDS: each row of YtgjeildmnmfofaaGreatDoorRows.lean that lists a variable, with what it lists TIED to the program's text (the seventh form; the later family's looks); each row that meets fmt, with fmt's text TOLD by the authors' own Lean function (tested against real Go, not proved from fmt's source: count such statements apart). THE CARD IS WHAT COUNTS. Prove the row's statement (the work); the ties are given (YtgjeildmnmfofaaGreatDoorTie.lean); close each card by the builder's one call (the guide's Derived/Test/ToyasCard.lean, 'card_holds'). Laid BY PROGRAM, IN A SANDBOX (cutbox-door.mjs). By AI agents, Wed Nov 11 2026. No macro, syntax, notation, axiom, sorry.
-/
import Derived.Test.YtgjeildmnmfofaaGreatDoorRows
import GoSem.ClaimSeven
namespace Go.Proofs.YtgjeildmnmfofaaGreatDoor
namespace Rows

/-- THE TIED CARD OF 'laws.FnExactExampleOf'. -/
def fnExactExampleOfCard : Claim7 := { stood := { row := fnExactExampleOfRow, standIns := [], harness := (true, "4da9eedb35273809e6708e7ed9d0f865f254a4b03d5cc75e54e9bd4489374a59"), looks := true }, kinds := [], alts := [], laidByText := true, laidKinds := [.data, .data, .data, .data, .sentinel, .sentinel, .pinned], laidTests := true, laidLooks := .later }
def FnExactExampleOfCardSaid : Prop := Claim7.holds Tryz.pinned (.plain (OpenSpec.ofChange fnExactExampleOfSpec)) fnExactExampleOfCard

/-- THE TIED CARD OF 'laws.FnExactCompileTerm'. -/
def fnExactCompileTermCard : Claim7 := { stood := { row := fnExactCompileTermRow, standIns := [], harness := (true, "4da9eedb35273809e6708e7ed9d0f865f254a4b03d5cc75e54e9bd4489374a59"), looks := true }, kinds := [], alts := [], laidByText := true, laidKinds := [.data, .data, .data, .data, .sentinel, .sentinel, .pinned], laidTests := true, laidLooks := .later }
def FnExactCompileTermCardSaid : Prop := Claim7.holds Tryz.pinned (.plain (OpenSpec.ofChange fnExactCompileTermSpec)) fnExactCompileTermCard

/-- THE TIED CARD OF 'laws.FnCompiled'. -/
def fnCompiledCard : Claim7 := { stood := { row := fnCompiledRow, standIns := [], harness := (true, "4da9eedb35273809e6708e7ed9d0f865f254a4b03d5cc75e54e9bd4489374a59"), looks := true }, kinds := [], alts := [], laidByText := true, laidKinds := [.data, .data, .data, .data, .sentinel, .sentinel, .pinned], laidTests := true, laidLooks := .later }
def FnCompiledCardSaid : Prop := Claim7.holds Tryz.pinned (.plain (OpenSpec.ofChange fnCompiledSpec)) fnCompiledCard

/-- THE SECOND FORM's CARD OF 'laws.FnExactExampleOf'. -/
def fnExactExampleOfUptoCard : Claim7 := { stood := { row := fnExactExampleOfUptoRow, standIns := [], harness := (true, "4da9eedb35273809e6708e7ed9d0f865f254a4b03d5cc75e54e9bd4489374a59"), looks := true }, kinds := [], alts := [], laidByText := true, laidKinds := [.data, .data, .data, .data, .sentinel, .sentinel, .pinned], laidTests := true, laidLooks := .later }
def FnExactExampleOfUptoCardSaid : Prop := Claim7.holds Tryz.pinned (.plain (OpenSpec.upto fnExactExampleOfSpec)) fnExactExampleOfUptoCard

/-- THE SECOND FORM's CARD OF 'laws.FnExactCompileTerm'. -/
def fnExactCompileTermUptoCard : Claim7 := { stood := { row := fnExactCompileTermUptoRow, standIns := [], harness := (true, "4da9eedb35273809e6708e7ed9d0f865f254a4b03d5cc75e54e9bd4489374a59"), looks := true }, kinds := [], alts := [], laidByText := true, laidKinds := [.data, .data, .data, .data, .sentinel, .sentinel, .pinned], laidTests := true, laidLooks := .later }
def FnExactCompileTermUptoCardSaid : Prop := Claim7.holds Tryz.pinned (.plain (OpenSpec.upto fnExactCompileTermSpec)) fnExactCompileTermUptoCard

/-- THE SECOND FORM's CARD OF 'laws.FnCompiled'. -/
def fnCompiledUptoCard : Claim7 := { stood := { row := fnCompiledUptoRow, standIns := [], harness := (true, "4da9eedb35273809e6708e7ed9d0f865f254a4b03d5cc75e54e9bd4489374a59"), looks := true }, kinds := [], alts := [], laidByText := true, laidKinds := [.data, .data, .data, .data, .sentinel, .sentinel, .pinned], laidTests := true, laidLooks := .later }
def FnCompiledUptoCardSaid : Prop := Claim7.holds Tryz.pinned (.plain (OpenSpec.upto fnCompiledSpec)) fnCompiledUptoCard
end Rows
end Go.Proofs.YtgjeildmnmfofaaGreatDoor
