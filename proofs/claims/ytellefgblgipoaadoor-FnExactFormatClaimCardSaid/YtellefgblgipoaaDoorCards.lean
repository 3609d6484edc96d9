/-
  DERIVED. GIVEN WITH THE SEED: THE CARDS: each row of YtellefgblgipoaaDoorRows.lean that lists a variable, with what it lists TIED to the program's text (the seventh form; the later family's looks); each row that meets fmt, with fmt's text TOLD by the authors' own Lean function (tested against real Go, not proved from fmt's source: count such statements apart). THE CARD IS WHAT COUNTS. Prove the row's statement (the work); the ties are given (YtellefgblgipoaaDoorTie.lean); close each card by the builder's one call (the guide's Derived/Test/ToyasCard.lean, 'card_holds'). Laid BY PROGRAM, IN A SANDBOX (cutbox-door.mjs). By AI agents, Wed Nov 11 2026. No macro, syntax, notation, axiom, sorry.
-/
import Derived.Test.YtellefgblgipoaaDoorRows
import GoSem.ClaimSeven
namespace Go.Proofs.YtellefgblgipoaaDoor
namespace Rows

/-- THE TIED CARD OF 'laws.FnExactFormatClaim'. -/
def fnExactFormatClaimCard : Claim7 := { stood := { row := fnExactFormatClaimRow, standIns := [], harness := (true, "abf840ae4c4f01da6434b59424fd19e2328d954c72819094068591ee373fe01e"), looks := false }, kinds := [], alts := [], laidByText := true, laidKinds := [.data, .data, .data], laidTests := true, laidLooks := .later }
def FnExactFormatClaimCardSaid : Prop := Claim7.holds Tryd.pinned (.plain (OpenSpec.ofChange fnExactFormatClaimSpec)) fnExactFormatClaimCard

/-- THE SECOND FORM's CARD OF 'laws.FnExactFormatClaim'. -/
def fnExactFormatClaimUptoCard : Claim7 := { stood := { row := fnExactFormatClaimUptoRow, standIns := [], harness := (true, "abf840ae4c4f01da6434b59424fd19e2328d954c72819094068591ee373fe01e"), looks := false }, kinds := [], alts := [], laidByText := true, laidKinds := [.data, .data, .data], laidTests := true, laidLooks := .later }
def FnExactFormatClaimUptoCardSaid : Prop := Claim7.holds Tryd.pinned (.plain (OpenSpec.upto fnExactFormatClaimSpec)) fnExactFormatClaimUptoCard
end Rows
end Go.Proofs.YtellefgblgipoaaDoor
