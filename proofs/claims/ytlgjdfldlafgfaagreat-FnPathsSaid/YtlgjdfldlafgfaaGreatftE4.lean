/- The functions of this seat, as that machine runs them. -/
import Derived.Test.YtlgjdfldlafgfaaGreatftE1
import Derived.Test.YtlgjdfldlafgfaaGreatftE2
import Derived.Test.YtlgjdfldlafgfaaGreatftE3
import Derived.Test.YtlgjdfldlafgfaaGreatRows
import Derived.JoinedOf
import Derived.ProofKit
namespace Go.Proofs.YtlgjdfldlafgfaaGreat.fnPaths
open Go
theorem named:Tryz.pinned.checked.prog.funcNamed Rows.fnPathsRow.func=some 3:=by kernel_rfl
end Go.Proofs.YtlgjdfldlafgfaaGreat.fnPaths
