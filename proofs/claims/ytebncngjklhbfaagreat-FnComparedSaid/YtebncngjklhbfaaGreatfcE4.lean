/- The functions of this seat, as that machine runs them. -/
import Derived.Test.YtebncngjklhbfaaGreatfcE1
import Derived.Test.YtebncngjklhbfaaGreatfcE2
import Derived.Test.YtebncngjklhbfaaGreatfcE3
import Derived.Test.YtebncngjklhbfaaGreatRows
import Derived.JoinedOf
import Derived.ProofKit
namespace Go.Proofs.YtebncngjklhbfaaGreat.fnCompared
open Go
theorem named:Tryz.pinned.checked.prog.funcNamed Rows.fnComparedRow.func=some 6:=by kernel_rfl
end Go.Proofs.YtebncngjklhbfaaGreat.fnCompared
