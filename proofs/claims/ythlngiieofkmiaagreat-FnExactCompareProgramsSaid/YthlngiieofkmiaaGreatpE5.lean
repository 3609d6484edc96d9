/- The functions of this seat, as that machine runs them. -/
import Derived.Test.YthlngiieofkmiaaGreatpE4
import Derived.Test.YthlngiieofkmiaaGreatRows
import Derived.JoinedOf
import Derived.ProofKit
namespace Go.Proofs.YthlngiieofkmiaaGreat.fnExactComparePrograms
open Go
theorem closed : joinedFacts Tryz.pinned.checked.prog 12 Tryz.f12 Rows.fnExactCompareProgramsSpec Rows.fnExactCompareProgramsRow = true := by
 unfold joinedFacts
 rw [f25,f26,f27]
 kernel_rfl
end Go.Proofs.YthlngiieofkmiaaGreat.fnExactComparePrograms
