/- The functions of this seat, as that machine runs them. -/
import Derived.Test.YtebncngjklhbfaaGreatRows
import Derived.JoinedOf
import Derived.ProofKit
namespace Go.Proofs.YtebncngjklhbfaaGreat.fnReplayed
open Go
theorem f27:(Tryz.pinned.checked.prog.make==some Rows.fnReplayedRow.make)=true:=by kernel_rfl
end Go.Proofs.YtebncngjklhbfaaGreat.fnReplayed
