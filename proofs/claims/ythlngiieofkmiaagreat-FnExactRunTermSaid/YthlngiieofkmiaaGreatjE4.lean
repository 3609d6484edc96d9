/- The functions of this seat, as that machine runs them. -/
import Derived.Test.YthlngiieofkmiaaGreatjE1
import Derived.Test.YthlngiieofkmiaaGreatjE2
import Derived.Test.YthlngiieofkmiaaGreatjE3
import Derived.Test.YthlngiieofkmiaaGreatRows
import Derived.JoinedOf
import Derived.ProofKit
namespace Go.Proofs.YthlngiieofkmiaaGreat.fnExactRunTerm
open Go
theorem named : Tryz.pinned.checked.prog.funcNamed Rows.fnExactRunTermRow.func = some 6 := by kernel_rfl
end Go.Proofs.YthlngiieofkmiaaGreat.fnExactRunTerm
