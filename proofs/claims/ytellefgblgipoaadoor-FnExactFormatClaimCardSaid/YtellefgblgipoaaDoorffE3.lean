/- The functions of this seat, as that machine runs them. -/
import Derived.Test.YtellefgblgipoaaDoorRows
import Derived.JoinedOf
import Derived.ProofKit
namespace Go.Proofs.YtellefgblgipoaaDoor.fnExactFormatClaim
open Go
theorem f27:(Tryd.pinned.checked.prog.make==some Rows.fnExactFormatClaimRow.make)=true:=by kernel_rfl
end Go.Proofs.YtellefgblgipoaaDoor.fnExactFormatClaim
