/- The functions of this seat, as that machine runs them. -/
import Derived.Test.YtebeihhcaaaaiaaGreatfxE1
import Derived.Test.YtebeihhcaaaaiaaGreatfxE2
import Derived.Test.YtebeihhcaaaaiaaGreatfxE3
import Derived.Test.YtebeihhcaaaaiaaGreatRows
import Derived.JoinedOf
import Derived.ProofKit
namespace Go.Proofs.YtebeihhcaaaaiaaGreat.fnProofs
open Go
theorem ag2:Tryz.pinned.checked.prog.funcNamed Rows.fnProofsRow.func=some 4:=by kernel_rfl
end Go.Proofs.YtebeihhcaaaaiaaGreat.fnProofs
