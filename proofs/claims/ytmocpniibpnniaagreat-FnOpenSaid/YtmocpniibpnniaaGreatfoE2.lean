/- The functions of this seat, as that machine runs them. -/
import Derived.Test.YtmocpniibpnniaaGreatRows
import Derived.JoinedOf
import Derived.ProofKit
namespace Go.Proofs.YtmocpniibpnniaaGreat.fnOpen
open Go
theorem f26:(Rows.fnOpenRow.lifted==Tryz.pinned.checked.prog.liftsFinal)=true:=by kernel_rfl
end Go.Proofs.YtmocpniibpnniaaGreat.fnOpen
