/- The functions of this seat, as that machine runs them. -/
import Derived.Test.YthlngiieofkmiaaGreatoE4
import Derived.Test.YthlngiieofkmiaaGreatRows
import Derived.JoinedOf
import Derived.ProofKit
namespace Go.Proofs.YthlngiieofkmiaaGreat.fnExactFindRefutation
open Go
theorem closed : joinedFacts Tryz.pinned.checked.prog 10 Tryz.f10 Rows.fnExactFindRefutationSpec Rows.fnExactFindRefutationRow = true := by
  unfold joinedFacts
  rw [f25, f26, f27]
  kernel_rfl
end Go.Proofs.YthlngiieofkmiaaGreat.fnExactFindRefutation
