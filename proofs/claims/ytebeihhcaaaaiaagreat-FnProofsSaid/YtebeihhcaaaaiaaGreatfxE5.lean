/- The functions of this seat, as that machine runs them. -/
import Derived.Test.YtebeihhcaaaaiaaGreatfxE4
import Derived.Test.YtebeihhcaaaaiaaGreatRows
import Derived.JoinedOf
import Derived.ProofKit
namespace Go.Proofs.YtebeihhcaaaaiaaGreat.fnProofs
open Go
theorem wi:joinedFacts Tryz.pinned.checked.prog 4 Tryz.f4 Rows.fnProofsSpec Rows.fnProofsRow=true:=by
 unfold joinedFacts;rw[f25,f26,f27];kernel_rfl
end Go.Proofs.YtebeihhcaaaaiaaGreat.fnProofs
