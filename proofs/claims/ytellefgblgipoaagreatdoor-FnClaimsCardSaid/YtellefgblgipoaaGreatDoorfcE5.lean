/- The functions of this seat, as that machine runs them. -/
import Derived.Test.YtellefgblgipoaaGreatDoorfcE4
import Derived.Test.YtellefgblgipoaaGreatDoorRows
import Derived.JoinedOf
import Derived.ProofKit
namespace Go.Proofs.YtellefgblgipoaaGreatDoor.fnClaims
open Go
theorem ve:joinedFacts Tryz.pinned.checked.prog 3 Tryz.f3 Rows.fnClaimsSpec Rows.fnClaimsRow=true:=by
 unfold joinedFacts;rw [f25,f26,f27];kernel_rfl
end Go.Proofs.YtellefgblgipoaaGreatDoor.fnClaims
