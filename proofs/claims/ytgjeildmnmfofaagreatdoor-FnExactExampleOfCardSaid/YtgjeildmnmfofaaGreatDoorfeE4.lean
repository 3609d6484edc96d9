/- The functions of this seat, as that machine runs them. -/
import Derived.Test.YtgjeildmnmfofaaGreatDoorfeE1
import Derived.Test.YtgjeildmnmfofaaGreatDoorfeE2
import Derived.Test.YtgjeildmnmfofaaGreatDoorfeE3
import Derived.Test.YtgjeildmnmfofaaGreatDoorRows
import Derived.JoinedOf
import Derived.ProofKit
namespace Go.Proofs.YtgjeildmnmfofaaGreatDoor.fnExactExampleOf
open Go
theorem named:Tryz.pinned.checked.prog.funcNamed Rows.fnExactExampleOfRow.func=some 3:=by kernel_rfl
end Go.Proofs.YtgjeildmnmfofaaGreatDoor.fnExactExampleOf
