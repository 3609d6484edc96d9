/- The functions of this seat, as that machine runs them. -/
import Derived.Test.YtlgjdfldlafgfaaGreatRows
import Derived.JoinedOf
import Derived.ProofKit
namespace Go.Proofs.YtlgjdfldlafgfaaGreat.fnPaths
open Go
theorem f27:(Tryz.pinned.checked.prog.make==some Rows.fnPathsRow.make)=true:=by kernel_rfl
end Go.Proofs.YtlgjdfldlafgfaaGreat.fnPaths
