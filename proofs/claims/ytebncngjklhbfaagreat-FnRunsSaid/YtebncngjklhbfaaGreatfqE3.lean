/- The functions of this seat, as that machine runs them. -/
import Derived.Test.YtebncngjklhbfaaGreatRows
import Derived.JoinedOf
import Derived.ProofKit
namespace Go.Proofs.YtebncngjklhbfaaGreat.fnRuns
open Go
theorem f27:(Tryz.pinned.checked.prog.make==some Rows.fnRunsRow.make)=true:=by kernel_rfl
end Go.Proofs.YtebncngjklhbfaaGreat.fnRuns
