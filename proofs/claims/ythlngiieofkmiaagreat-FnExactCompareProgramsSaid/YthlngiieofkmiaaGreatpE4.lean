/- The functions of this seat, as that machine runs them. -/
import Derived.Test.YthlngiieofkmiaaGreatpE1
import Derived.Test.YthlngiieofkmiaaGreatpE2
import Derived.Test.YthlngiieofkmiaaGreatpE3
import Derived.Test.YthlngiieofkmiaaGreatRows
import Derived.JoinedOf
import Derived.ProofKit
namespace Go.Proofs.YthlngiieofkmiaaGreat.fnExactComparePrograms
open Go
theorem named : Tryz.pinned.checked.prog.funcNamed Rows.fnExactCompareProgramsRow.func = some 12 := by kernel_rfl
end Go.Proofs.YthlngiieofkmiaaGreat.fnExactComparePrograms
