/- The functions of this seat, as that machine runs them. -/
import Derived.Test.YtfhbgobhfjoppaaGreatfsE1
import Derived.Test.YtfhbgobhfjoppaaGreatfsE2
import Derived.Test.YtfhbgobhfjoppaaGreatfsE3
import Derived.Test.YtfhbgobhfjoppaaGreatRows
import Derived.JoinedOf
import Derived.ProofKit
namespace Go.Proofs.YtfhbgobhfjoppaaGreat.fnTests
open Go
theorem named:Tryz.pinned.checked.prog.funcNamed Rows.fnTestsRow.func=some 3:=by kernel_rfl
end Go.Proofs.YtfhbgobhfjoppaaGreat.fnTests
