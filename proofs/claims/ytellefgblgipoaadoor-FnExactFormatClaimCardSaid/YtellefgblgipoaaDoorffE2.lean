/- The functions of this seat, as that machine runs them. -/
import Derived.Test.YtellefgblgipoaaDoorRows
import Derived.JoinedOf
import Derived.ProofKit
namespace Go.Proofs.YtellefgblgipoaaDoor.fnExactFormatClaim
open Go
theorem f26:(Rows.fnExactFormatClaimRow.lifted==Tryd.pinned.checked.prog.liftsFinal)=true:=by kernel_rfl
end Go.Proofs.YtellefgblgipoaaDoor.fnExactFormatClaim
