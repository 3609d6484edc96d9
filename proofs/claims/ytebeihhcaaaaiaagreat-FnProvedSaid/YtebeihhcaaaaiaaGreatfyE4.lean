/- The functions of this seat, as that machine runs them. -/
import Derived.Test.YtebeihhcaaaaiaaGreatfyE1
import Derived.Test.YtebeihhcaaaaiaaGreatfyE2
import Derived.Test.YtebeihhcaaaaiaaGreatfyE3
import Derived.Test.YtebeihhcaaaaiaaGreatRows
import Derived.JoinedOf
import Derived.ProofKit
namespace Go.Proofs.YtebeihhcaaaaiaaGreat.fnProved
open Go
theorem ad1:Tryz.pinned.checked.prog.funcNamed Rows.fnProvedRow.func=some 5:=by kernel_rfl
end Go.Proofs.YtebeihhcaaaaiaaGreat.fnProved
