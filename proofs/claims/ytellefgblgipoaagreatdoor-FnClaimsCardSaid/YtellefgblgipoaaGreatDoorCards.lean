/-
  DERIVED. GIVEN WITH THE SEED: THE CARDS: each row of YtellefgblgipoaaGreatDoorRows.lean that lists a variable, with what it lists TIED to the program's text (the seventh form; the later family's looks); each row that meets fmt, with fmt's text TOLD by the authors' own Lean function (tested against real Go, not proved from fmt's source: count such statements apart). THE CARD IS WHAT COUNTS. Prove the row's statement (the work); the ties are given (YtellefgblgipoaaGreatDoorTie.lean); close each card by the builder's one call (the guide's Derived/Test/ToyasCard.lean, 'card_holds'). Laid BY PROGRAM, IN A SANDBOX (cutbox-door.mjs). By AI agents, Wed Nov 11 2026. No macro, syntax, notation, axiom, sorry.
-/
import Derived.Test.YtellefgblgipoaaGreatDoorRows
import GoSem.ClaimSeven
namespace Go.Proofs.YtellefgblgipoaaGreatDoor
namespace Rows

/-- THE TIED CARD OF 'laws.FnClaims'. -/
def fnClaimsCard : Claim7 := { stood := { row := fnClaimsRow, standIns := [], harness := (true, "01fff9aaa034cd367abc7ebfc252a50ddbcc247d6e439ef2face13b1fa5f80e6"), looks := false }, kinds := [], alts := [], laidByText := true, laidKinds := [.data, .data, .data], laidTests := true, laidLooks := .later }
def FnClaimsCardSaid : Prop := Claim7.holds Tryz.pinned (.plain (OpenSpec.ofChange fnClaimsSpec)) fnClaimsCard

/-- THE SECOND FORM's CARD OF 'laws.FnClaims'. -/
def fnClaimsUptoCard : Claim7 := { stood := { row := fnClaimsUptoRow, standIns := [], harness := (true, "01fff9aaa034cd367abc7ebfc252a50ddbcc247d6e439ef2face13b1fa5f80e6"), looks := false }, kinds := [], alts := [], laidByText := true, laidKinds := [.data, .data, .data], laidTests := true, laidLooks := .later }
def FnClaimsUptoCardSaid : Prop := Claim7.holds Tryz.pinned (.plain (OpenSpec.upto fnClaimsSpec)) fnClaimsUptoCard
end Rows
end Go.Proofs.YtellefgblgipoaaGreatDoor
