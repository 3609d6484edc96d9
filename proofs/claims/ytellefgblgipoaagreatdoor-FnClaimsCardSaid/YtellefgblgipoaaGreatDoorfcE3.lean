/- The functions of this seat, as that machine runs them. -/
import Derived.Test.YtellefgblgipoaaGreatDoorRows
import Derived.JoinedOf
import Derived.ProofKit
namespace Go.Proofs.YtellefgblgipoaaGreatDoor.fnClaims
open Go
theorem f27:(Tryz.pinned.checked.prog.make==some Rows.fnClaimsRow.make)=true:=by kernel_rfl
end Go.Proofs.YtellefgblgipoaaGreatDoor.fnClaims
