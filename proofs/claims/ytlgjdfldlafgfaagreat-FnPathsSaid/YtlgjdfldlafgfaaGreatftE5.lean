/- The functions of this seat, as that machine runs them. -/
import Derived.Test.YtlgjdfldlafgfaaGreatftE4
import Derived.Test.YtlgjdfldlafgfaaGreatRows
import Derived.JoinedOf
import Derived.ProofKit
namespace Go.Proofs.YtlgjdfldlafgfaaGreat.fnPaths
open Go
theorem closed:joinedFacts Tryz.pinned.checked.prog 3 Tryz.f3 Rows.fnPathsSpec Rows.fnPathsRow=true:=by
 unfold joinedFacts;rw [f25,f26,f27];kernel_rfl
end Go.Proofs.YtlgjdfldlafgfaaGreat.fnPaths
