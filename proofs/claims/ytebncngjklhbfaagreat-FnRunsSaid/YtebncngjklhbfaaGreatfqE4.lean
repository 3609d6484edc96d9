/- The functions of this seat, as that machine runs them. -/
import Derived.Test.YtebncngjklhbfaaGreatfqE1
import Derived.Test.YtebncngjklhbfaaGreatfqE2
import Derived.Test.YtebncngjklhbfaaGreatfqE3
import Derived.Test.YtebncngjklhbfaaGreatRows
import Derived.JoinedOf
import Derived.ProofKit
namespace Go.Proofs.YtebncngjklhbfaaGreat.fnRuns
open Go
theorem named:Tryz.pinned.checked.prog.funcNamed Rows.fnRunsRow.func=some 4:=by kernel_rfl
end Go.Proofs.YtebncngjklhbfaaGreat.fnRuns
