/- The functions of this seat, as that machine runs them. -/
import Derived.Test.YthlngiieofkmiaaGreatmE4
import Derived.Test.YthlngiieofkmiaaGreatRows
import Derived.JoinedOf
import Derived.ProofKit
namespace Go.Proofs.YthlngiieofkmiaaGreat.fnExactPassesTest
open Go
theorem closed : joinedFacts Tryz.pinned.checked.prog 5 Tryz.f5 Rows.fnExactPassesTestSpec Rows.fnExactPassesTestRow = true := by
  unfold joinedFacts
  rw [f25, f26, f27]
  kernel_rfl
end Go.Proofs.YthlngiieofkmiaaGreat.fnExactPassesTest
