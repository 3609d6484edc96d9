/- The functions of this seat, as that machine runs them. -/
import Derived.Test.YtebeihhcaaaaiaaGreatfwE4
import Derived.Test.YtebeihhcaaaaiaaGreatRows
import Derived.JoinedOf
import Derived.ProofKit
namespace Go.Proofs.YtebeihhcaaaaiaaGreat.fnVerdicts
open Go
theorem xh:joinedFacts Tryz.pinned.checked.prog 3 Tryz.f3 Rows.fnVerdictsSpec Rows.fnVerdictsRow=true:=by
 unfold joinedFacts;rw[f25,f26,f27];kernel_rfl
end Go.Proofs.YtebeihhcaaaaiaaGreat.fnVerdicts
