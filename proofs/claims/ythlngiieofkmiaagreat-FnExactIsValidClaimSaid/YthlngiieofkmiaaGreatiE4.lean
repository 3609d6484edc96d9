/- The functions of this seat, as that machine runs them. -/
import Derived.Test.YthlngiieofkmiaaGreatiE1
import Derived.Test.YthlngiieofkmiaaGreatiE2
import Derived.Test.YthlngiieofkmiaaGreatiE3
import Derived.Test.YthlngiieofkmiaaGreatRows
import Derived.JoinedOf
import Derived.ProofKit
namespace Go.Proofs.YthlngiieofkmiaaGreat.fnExactIsValidClaim
open Go
theorem named : Tryz.pinned.checked.prog.funcNamed Rows.fnExactIsValidClaimRow.func = some 3 := by kernel_rfl
end Go.Proofs.YthlngiieofkmiaaGreat.fnExactIsValidClaim
