/- The functions of this seat, as that machine runs them. -/
import Derived.Test.YthlngiieofkmiaaGreatnE1
import Derived.Test.YthlngiieofkmiaaGreatnE2
import Derived.Test.YthlngiieofkmiaaGreatnE3
import Derived.Test.YthlngiieofkmiaaGreatRows
import Derived.JoinedOf
import Derived.ProofKit
namespace Go.Proofs.YthlngiieofkmiaaGreat.fnExactTranslateTerm
open Go
theorem named : Tryz.pinned.checked.prog.funcNamed Rows.fnExactTranslateTermRow.func = some 7 := by kernel_rfl
end Go.Proofs.YthlngiieofkmiaaGreat.fnExactTranslateTerm
