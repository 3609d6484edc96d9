/- The functions of this seat, as that machine runs them. -/
import Derived.Test.YtmocpniibpnniaaGreatRows
import Derived.JoinedOf
import Derived.ProofKit
namespace Go.Proofs.YtmocpniibpnniaaGreat.fnOpen
open Go
theorem f27:(Tryz.pinned.checked.prog.make==some Rows.fnOpenRow.make)=true:=by kernel_rfl
end Go.Proofs.YtmocpniibpnniaaGreat.fnOpen
