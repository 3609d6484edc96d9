/- The functions of this seat, as that machine runs them. -/
import Derived.Test.YthlngiieofkmiaaGreatkE4
import Derived.Test.YthlngiieofkmiaaGreatRows
import Derived.JoinedOf
import Derived.ProofKit
namespace Go.Proofs.YthlngiieofkmiaaGreat.fnExactTraceTerm
open Go
theorem closed : joinedFacts Tryz.pinned.checked.prog 8 Tryz.f8 Rows.fnExactTraceTermSpec Rows.fnExactTraceTermRow = true := by
  unfold joinedFacts
  rw [f25, f26, f27]
  kernel_rfl
end Go.Proofs.YthlngiieofkmiaaGreat.fnExactTraceTerm
