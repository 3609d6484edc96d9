/- The functions of this seat, as that machine runs them. -/
import Derived.Test.YtgjeildmnmfofaaGreatDoorRows
import Derived.JoinedOf
import Derived.ProofKit
namespace Go.Proofs.YtgjeildmnmfofaaGreatDoor.fnExactExampleOf
open Go
theorem f25:Tryz.pinned.checked.prog.mayEnter=true:=by kernel_rfl
end Go.Proofs.YtgjeildmnmfofaaGreatDoor.fnExactExampleOf
