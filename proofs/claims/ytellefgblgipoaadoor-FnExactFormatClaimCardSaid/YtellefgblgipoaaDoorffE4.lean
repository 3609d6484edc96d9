/- The functions of this seat, as that machine runs them. -/
import Derived.Test.YtellefgblgipoaaDoorffE1
import Derived.Test.YtellefgblgipoaaDoorffE2
import Derived.Test.YtellefgblgipoaaDoorffE3
import Derived.Test.YtellefgblgipoaaDoorRows
import Derived.JoinedOf
import Derived.ProofKit
namespace Go.Proofs.YtellefgblgipoaaDoor.fnExactFormatClaim
open Go
theorem named:Tryd.pinned.checked.prog.funcNamed Rows.fnExactFormatClaimRow.func=some 3:=by kernel_rfl
end Go.Proofs.YtellefgblgipoaaDoor.fnExactFormatClaim
