/- The functions of this seat, as that machine runs them. -/
import Derived.Test.YtfhbgobhfjoppaaGreatfsE4
import Derived.Test.YtfhbgobhfjoppaaGreatRows
import Derived.JoinedOf
import Derived.ProofKit
namespace Go.Proofs.YtfhbgobhfjoppaaGreat.fnTests
open Go
theorem closed:joinedFacts Tryz.pinned.checked.prog 3 Tryz.f3 Rows.fnTestsSpec Rows.fnTestsRow=true:=by
 unfold joinedFacts;rw [f25,f26,f27];kernel_rfl
end Go.Proofs.YtfhbgobhfjoppaaGreat.fnTests
