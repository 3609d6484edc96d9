/- The functions of this seat, as that machine runs them. -/
import Derived.Test.YtmocpniibpnniaaGreatfoE1
import Derived.Test.YtmocpniibpnniaaGreatfoE2
import Derived.Test.YtmocpniibpnniaaGreatfoE3
import Derived.Test.YtmocpniibpnniaaGreatRows
import Derived.JoinedOf
import Derived.ProofKit
namespace Go.Proofs.YtmocpniibpnniaaGreat.fnOpen
open Go
theorem named:Tryz.pinned.checked.prog.funcNamed Rows.fnOpenRow.func=some 4:=by kernel_rfl
end Go.Proofs.YtmocpniibpnniaaGreat.fnOpen
