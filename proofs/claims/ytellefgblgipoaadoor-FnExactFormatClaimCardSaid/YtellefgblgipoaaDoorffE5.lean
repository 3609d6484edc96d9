/- The functions of this seat, as that machine runs them. -/
import Derived.Test.YtellefgblgipoaaDoorffE4
import Derived.Test.YtellefgblgipoaaDoorRows
import Derived.JoinedOf
import Derived.ProofKit
namespace Go.Proofs.YtellefgblgipoaaDoor.fnExactFormatClaim
open Go
theorem closed:joinedFacts Tryd.pinned.checked.prog 3 Tryd.f3 Rows.fnExactFormatClaimSpec Rows.fnExactFormatClaimRow=true:=by
 unfold joinedFacts;rw [f25,f26,f27];kernel_rfl
end Go.Proofs.YtellefgblgipoaaDoor.fnExactFormatClaim
