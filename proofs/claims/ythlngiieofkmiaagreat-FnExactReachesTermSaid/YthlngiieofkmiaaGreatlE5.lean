/- The functions of this seat, as that machine runs them. -/
import Derived.Test.YthlngiieofkmiaaGreatlE4
import Derived.Test.YthlngiieofkmiaaGreatRows
import Derived.JoinedOf
import Derived.ProofKit
namespace Go.Proofs.YthlngiieofkmiaaGreat.fnExactReachesTerm
open Go
theorem closed : joinedFacts Tryz.pinned.checked.prog 4 Tryz.f4 Rows.fnExactReachesTermSpec Rows.fnExactReachesTermRow = true := by
  unfold joinedFacts
  rw [f25, f26, f27]
  kernel_rfl
end Go.Proofs.YthlngiieofkmiaaGreat.fnExactReachesTerm
