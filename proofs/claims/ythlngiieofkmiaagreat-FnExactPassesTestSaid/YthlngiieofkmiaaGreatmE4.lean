/- The functions of this seat, as that machine runs them. -/
import Derived.Test.YthlngiieofkmiaaGreatmE1
import Derived.Test.YthlngiieofkmiaaGreatmE2
import Derived.Test.YthlngiieofkmiaaGreatmE3
import Derived.Test.YthlngiieofkmiaaGreatRows
import Derived.JoinedOf
import Derived.ProofKit
namespace Go.Proofs.YthlngiieofkmiaaGreat.fnExactPassesTest
open Go
theorem named : Tryz.pinned.checked.prog.funcNamed Rows.fnExactPassesTestRow.func = some 5 := by kernel_rfl
end Go.Proofs.YthlngiieofkmiaaGreat.fnExactPassesTest
