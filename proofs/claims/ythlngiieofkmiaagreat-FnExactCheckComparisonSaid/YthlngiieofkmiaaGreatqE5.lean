/- The functions of this seat, as that machine runs them. -/
import Derived.Test.YthlngiieofkmiaaGreatqE4
import Derived.Test.YthlngiieofkmiaaGreatRows
import Derived.JoinedOf
import Derived.ProofKit
namespace Go.Proofs.YthlngiieofkmiaaGreat.fnExactCheckComparison
open Go
theorem closed : joinedFacts Tryz.pinned.checked.prog 11 Tryz.f11 Rows.fnExactCheckComparisonSpec Rows.fnExactCheckComparisonRow = true := by
 unfold joinedFacts
 rw [f25,f26,f27]
 kernel_rfl
end Go.Proofs.YthlngiieofkmiaaGreat.fnExactCheckComparison
