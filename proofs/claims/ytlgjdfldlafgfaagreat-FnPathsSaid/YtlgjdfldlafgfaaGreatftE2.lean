/- The functions of this seat, as that machine runs them. -/
import Derived.Test.YtlgjdfldlafgfaaGreatRows
import Derived.JoinedOf
import Derived.ProofKit
namespace Go.Proofs.YtlgjdfldlafgfaaGreat.fnPaths
open Go
theorem f26:(Rows.fnPathsRow.lifted==Tryz.pinned.checked.prog.liftsFinal)=true:=by kernel_rfl
end Go.Proofs.YtlgjdfldlafgfaaGreat.fnPaths
