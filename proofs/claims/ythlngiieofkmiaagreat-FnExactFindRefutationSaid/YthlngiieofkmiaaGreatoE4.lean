/- The functions of this seat, as that machine runs them. -/
import Derived.Test.YthlngiieofkmiaaGreatoE1
import Derived.Test.YthlngiieofkmiaaGreatoE2
import Derived.Test.YthlngiieofkmiaaGreatoE3
import Derived.Test.YthlngiieofkmiaaGreatRows
import Derived.JoinedOf
import Derived.ProofKit
namespace Go.Proofs.YthlngiieofkmiaaGreat.fnExactFindRefutation
open Go
theorem named : Tryz.pinned.checked.prog.funcNamed Rows.fnExactFindRefutationRow.func = some 10 := by kernel_rfl
end Go.Proofs.YthlngiieofkmiaaGreat.fnExactFindRefutation
