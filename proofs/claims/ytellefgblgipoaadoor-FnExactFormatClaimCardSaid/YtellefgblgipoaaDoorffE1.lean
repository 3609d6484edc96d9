/- The functions of this seat, as that machine runs them. -/
import Derived.Test.YtellefgblgipoaaDoorRows
import Derived.JoinedOf
import Derived.ProofKit
namespace Go.Proofs.YtellefgblgipoaaDoor.fnExactFormatClaim
open Go
theorem f25:Tryd.pinned.checked.prog.mayEnter=true:=by kernel_rfl
end Go.Proofs.YtellefgblgipoaaDoor.fnExactFormatClaim
