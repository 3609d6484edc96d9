/- The functions of this seat, as that machine runs them. -/
import Derived.Test.YtebeihhcaaaaiaaGreatRows
import Derived.JoinedOf
import Derived.ProofKit
namespace Go.Proofs.YtebeihhcaaaaiaaGreat.fnVerdicts
open Go
theorem f26:(Rows.fnVerdictsRow.lifted==Tryz.pinned.checked.prog.liftsFinal)=true:=by kernel_rfl
end Go.Proofs.YtebeihhcaaaaiaaGreat.fnVerdicts
