/- The functions of this seat, as that machine runs them. -/
import Derived.Test.YtfhbgobhfjoppaaGreatRows
import Derived.JoinedOf
import Derived.ProofKit
namespace Go.Proofs.YtfhbgobhfjoppaaGreat.fnTests
open Go
theorem f26:(Rows.fnTestsRow.lifted==Tryz.pinned.checked.prog.liftsFinal)=true:=by kernel_rfl
end Go.Proofs.YtfhbgobhfjoppaaGreat.fnTests
