/- The functions of this seat, as that machine runs them. -/
import Derived.Test.YtgjeildmnmfofaaGreatDoorRows
import Derived.JoinedOf
import Derived.ProofKit
namespace Go.Proofs.YtgjeildmnmfofaaGreatDoor.fnExactExampleOf
open Go
theorem f27:(Tryz.pinned.checked.prog.make==some Rows.fnExactExampleOfRow.make)=true:=by kernel_rfl
end Go.Proofs.YtgjeildmnmfofaaGreatDoor.fnExactExampleOf
