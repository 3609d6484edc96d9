/- The functions of this seat, as that machine runs them. -/
import Derived.Test.YthlngiieofkmiaaGreatjE4
import Derived.Test.YthlngiieofkmiaaGreatRows
import Derived.JoinedOf
import Derived.ProofKit
namespace Go.Proofs.YthlngiieofkmiaaGreat.fnExactRunTerm
open Go
theorem closed : joinedFacts Tryz.pinned.checked.prog 6 Tryz.f6 Rows.fnExactRunTermSpec Rows.fnExactRunTermRow = true := by
  unfold joinedFacts
  rw [f25, f26, f27]
  kernel_rfl
end Go.Proofs.YthlngiieofkmiaaGreat.fnExactRunTerm
