/- The functions of this seat, as that machine runs them. -/
import Derived.Test.YtebeihhcaaaaiaaGreatRows
import Derived.JoinedOf
import Derived.ProofKit
namespace Go.Proofs.YtebeihhcaaaaiaaGreat.fnVerdicts
open Go
theorem f27:(Tryz.pinned.checked.prog.make==some Rows.fnVerdictsRow.make)=true:=by kernel_rfl
end Go.Proofs.YtebeihhcaaaaiaaGreat.fnVerdicts
