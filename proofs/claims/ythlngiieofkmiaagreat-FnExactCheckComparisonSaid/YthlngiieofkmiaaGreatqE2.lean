/- The functions of this seat, as that machine runs them. -/
import Derived.Test.YthlngiieofkmiaaGreatRows
import Derived.JoinedOf
import Derived.ProofKit
namespace Go.Proofs.YthlngiieofkmiaaGreat.fnExactCheckComparison
open Go
theorem f26 : (Rows.fnExactCheckComparisonRow.lifted == Tryz.pinned.checked.prog.liftsFinal) = true := by kernel_rfl
end Go.Proofs.YthlngiieofkmiaaGreat.fnExactCheckComparison
