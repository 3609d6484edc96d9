/- The functions of this seat, as that machine runs them. -/
import Derived.Test.YtellefgblgipoaaGreatDoorfcE1
import Derived.Test.YtellefgblgipoaaGreatDoorfcE2
import Derived.Test.YtellefgblgipoaaGreatDoorfcE3
import Derived.Test.YtellefgblgipoaaGreatDoorRows
import Derived.JoinedOf
import Derived.ProofKit
namespace Go.Proofs.YtellefgblgipoaaGreatDoor.fnClaims
open Go
theorem named:Tryz.pinned.checked.prog.funcNamed Rows.fnClaimsRow.func=some 3:=by kernel_rfl
end Go.Proofs.YtellefgblgipoaaGreatDoor.fnClaims
