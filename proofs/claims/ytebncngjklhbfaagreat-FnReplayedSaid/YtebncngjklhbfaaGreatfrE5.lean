/- The functions of this seat, as that machine runs them. -/
import Derived.Test.YtebncngjklhbfaaGreatfrE4
import Derived.Test.YtebncngjklhbfaaGreatRows
import Derived.JoinedOf
import Derived.ProofKit
namespace Go.Proofs.YtebncngjklhbfaaGreat.fnReplayed
open Go
theorem closed:joinedFacts Tryz.pinned.checked.prog 5 Tryz.f5 Rows.fnReplayedSpec Rows.fnReplayedRow=true:=by
 unfold joinedFacts;rw [f25,f26,f27];kernel_rfl
end Go.Proofs.YtebncngjklhbfaaGreat.fnReplayed
