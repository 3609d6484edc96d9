/- The functions of this seat, as that machine runs them. -/
import Derived.Test.YtfhbgobhfjoppaaGreatRows
import Derived.JoinedOf
import Derived.ProofKit
namespace Go.Proofs.YtfhbgobhfjoppaaGreat.fnTests
open Go
theorem f27:(Tryz.pinned.checked.prog.make==some Rows.fnTestsRow.make)=true:=by kernel_rfl
end Go.Proofs.YtfhbgobhfjoppaaGreat.fnTests
