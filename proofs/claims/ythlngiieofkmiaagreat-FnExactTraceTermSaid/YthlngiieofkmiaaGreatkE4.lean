/- The functions of this seat, as that machine runs them. -/
import Derived.Test.YthlngiieofkmiaaGreatkE1
import Derived.Test.YthlngiieofkmiaaGreatkE2
import Derived.Test.YthlngiieofkmiaaGreatkE3
import Derived.Test.YthlngiieofkmiaaGreatRows
import Derived.JoinedOf
import Derived.ProofKit
namespace Go.Proofs.YthlngiieofkmiaaGreat.fnExactTraceTerm
open Go
theorem named : Tryz.pinned.checked.prog.funcNamed Rows.fnExactTraceTermRow.func = some 8 := by kernel_rfl
end Go.Proofs.YthlngiieofkmiaaGreat.fnExactTraceTerm
