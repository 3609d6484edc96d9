/- The functions of this seat, as that machine runs them. -/
import Derived.Test.YtebeihhcaaaaiaaGreatfyE4
import Derived.Test.YtebeihhcaaaaiaaGreatRows
import Derived.JoinedOf
import Derived.ProofKit
namespace Go.Proofs.YtebeihhcaaaaiaaGreat.fnProved
open Go
theorem vz:joinedFacts Tryz.pinned.checked.prog 5 Tryz.f5 Rows.fnProvedSpec Rows.fnProvedRow=true:=by
 unfold joinedFacts;rw[f25,f26,f27];kernel_rfl
end Go.Proofs.YtebeihhcaaaaiaaGreat.fnProved
