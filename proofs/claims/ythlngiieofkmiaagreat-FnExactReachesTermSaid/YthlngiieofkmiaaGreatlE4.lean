/- The functions of this seat, as that machine runs them. -/
import Derived.Test.YthlngiieofkmiaaGreatlE1
import Derived.Test.YthlngiieofkmiaaGreatlE2
import Derived.Test.YthlngiieofkmiaaGreatlE3
import Derived.Test.YthlngiieofkmiaaGreatRows
import Derived.JoinedOf
import Derived.ProofKit
namespace Go.Proofs.YthlngiieofkmiaaGreat.fnExactReachesTerm
open Go
theorem named : Tryz.pinned.checked.prog.funcNamed Rows.fnExactReachesTermRow.func = some 4 := by kernel_rfl
end Go.Proofs.YthlngiieofkmiaaGreat.fnExactReachesTerm
