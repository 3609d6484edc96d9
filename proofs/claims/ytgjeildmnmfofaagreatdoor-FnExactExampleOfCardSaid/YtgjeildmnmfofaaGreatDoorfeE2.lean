/- The functions of this seat, as that machine runs them. -/
import Derived.Test.YtgjeildmnmfofaaGreatDoorRows
import Derived.JoinedOf
import Derived.ProofKit
namespace Go.Proofs.YtgjeildmnmfofaaGreatDoor.fnExactExampleOf
open Go
theorem f26:(Rows.fnExactExampleOfRow.lifted==Tryz.pinned.checked.prog.liftsFinal)=true:=by kernel_rfl
end Go.Proofs.YtgjeildmnmfofaaGreatDoor.fnExactExampleOf
