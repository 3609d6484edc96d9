/- The functions of this seat, as that machine runs them. -/
import Derived.Test.YthlngiieofkmiaaGreatqE1
import Derived.Test.YthlngiieofkmiaaGreatqE2
import Derived.Test.YthlngiieofkmiaaGreatqE3
import Derived.Test.YthlngiieofkmiaaGreatRows
import Derived.JoinedOf
import Derived.ProofKit
namespace Go.Proofs.YthlngiieofkmiaaGreat.fnExactCheckComparison
open Go
theorem named : Tryz.pinned.checked.prog.funcNamed Rows.fnExactCheckComparisonRow.func = some 11 := by kernel_rfl
end Go.Proofs.YthlngiieofkmiaaGreat.fnExactCheckComparison
