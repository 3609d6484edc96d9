/- The functions of this seat, as that machine runs them. -/
import Derived.Test.YtebeihhcaaaaiaaGreatfwE1
import Derived.Test.YtebeihhcaaaaiaaGreatfwE2
import Derived.Test.YtebeihhcaaaaiaaGreatfwE3
import Derived.Test.YtebeihhcaaaaiaaGreatRows
import Derived.JoinedOf
import Derived.ProofKit
namespace Go.Proofs.YtebeihhcaaaaiaaGreat.fnVerdicts
open Go
theorem ai8:Tryz.pinned.checked.prog.funcNamed Rows.fnVerdictsRow.func=some 3:=by kernel_rfl
end Go.Proofs.YtebeihhcaaaaiaaGreat.fnVerdicts
