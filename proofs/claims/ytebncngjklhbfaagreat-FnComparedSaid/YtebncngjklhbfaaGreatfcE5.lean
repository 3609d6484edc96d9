/- The functions of this seat, as that machine runs them. -/
import Derived.Test.YtebncngjklhbfaaGreatfcE4
import Derived.Test.YtebncngjklhbfaaGreatRows
import Derived.JoinedOf
import Derived.ProofKit
namespace Go.Proofs.YtebncngjklhbfaaGreat.fnCompared
open Go
theorem closed:joinedFacts Tryz.pinned.checked.prog 6 Tryz.f6 Rows.fnComparedSpec Rows.fnComparedRow=true:=by
 unfold joinedFacts;rw [f25,f26,f27];kernel_rfl
end Go.Proofs.YtebncngjklhbfaaGreat.fnCompared
