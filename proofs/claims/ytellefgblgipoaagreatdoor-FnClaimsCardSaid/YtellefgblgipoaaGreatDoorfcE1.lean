/- The functions of this seat, as that machine runs them. -/
import Derived.Test.YtellefgblgipoaaGreatDoorRows
import Derived.JoinedOf
import Derived.ProofKit
namespace Go.Proofs.YtellefgblgipoaaGreatDoor.fnClaims
open Go
theorem f25:Tryz.pinned.checked.prog.mayEnter=true:=by kernel_rfl
end Go.Proofs.YtellefgblgipoaaGreatDoor.fnClaims
