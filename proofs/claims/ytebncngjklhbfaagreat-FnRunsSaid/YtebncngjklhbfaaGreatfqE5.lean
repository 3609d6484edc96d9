/- The functions of this seat, as that machine runs them. -/
import Derived.Test.YtebncngjklhbfaaGreatfqE4
import Derived.Test.YtebncngjklhbfaaGreatRows
import Derived.JoinedOf
import Derived.ProofKit
namespace Go.Proofs.YtebncngjklhbfaaGreat.fnRuns
open Go
theorem closed:joinedFacts Tryz.pinned.checked.prog 4 Tryz.f4 Rows.fnRunsSpec Rows.fnRunsRow=true:=by
 unfold joinedFacts;rw [f25,f26,f27];kernel_rfl
end Go.Proofs.YtebncngjklhbfaaGreat.fnRuns
