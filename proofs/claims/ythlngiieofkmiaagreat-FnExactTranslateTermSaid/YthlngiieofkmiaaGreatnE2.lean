/- The functions of this seat, as that machine runs them. -/
import Derived.Test.YthlngiieofkmiaaGreatRows
import Derived.JoinedOf
import Derived.ProofKit
namespace Go.Proofs.YthlngiieofkmiaaGreat.fnExactTranslateTerm
open Go
theorem f26 : (Rows.fnExactTranslateTermRow.lifted == Tryz.pinned.checked.prog.liftsFinal) = true := by kernel_rfl
end Go.Proofs.YthlngiieofkmiaaGreat.fnExactTranslateTerm
