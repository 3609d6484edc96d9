/- The functions of this seat, as that machine runs them. -/
import Derived.Test.YtgjeildmnmfofaaGreatDoorfeE4
import Derived.Test.YtgjeildmnmfofaaGreatDoorRows
import Derived.JoinedOf
import Derived.ProofKit
namespace Go.Proofs.YtgjeildmnmfofaaGreatDoor.fnExactExampleOf
open Go
theorem nd:joinedFacts Tryz.pinned.checked.prog 3 Tryz.f3 Rows.fnExactExampleOfSpec Rows.fnExactExampleOfRow=true:=by
 unfold joinedFacts;rw [f25,f26,f27];kernel_rfl
end Go.Proofs.YtgjeildmnmfofaaGreatDoor.fnExactExampleOf
