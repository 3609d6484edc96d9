/- The functions of this seat, as that machine runs them. -/
import Derived.Test.YtebncngjklhbfaaGreatfrE1
import Derived.Test.YtebncngjklhbfaaGreatfrE2
import Derived.Test.YtebncngjklhbfaaGreatfrE3
import Derived.Test.YtebncngjklhbfaaGreatRows
import Derived.JoinedOf
import Derived.ProofKit
namespace Go.Proofs.YtebncngjklhbfaaGreat.fnReplayed
open Go
theorem named:Tryz.pinned.checked.prog.funcNamed Rows.fnReplayedRow.func=some 5:=by kernel_rfl
end Go.Proofs.YtebncngjklhbfaaGreat.fnReplayed
