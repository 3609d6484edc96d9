/- The functions of this seat, as that machine runs them. -/
import Derived.Test.YtmocpniibpnniaaGreatfgE1
import Derived.Test.YtmocpniibpnniaaGreatfgE2
import Derived.Test.YtmocpniibpnniaaGreatfgE3
import Derived.Test.YtmocpniibpnniaaGreatRows
import Derived.JoinedOf
import Derived.ProofKit
namespace Go.Proofs.YtmocpniibpnniaaGreat.fnGoals
open Go
theorem named:Tryz.pinned.checked.prog.funcNamed Rows.fnGoalsRow.func=some 3:=by kernel_rfl
end Go.Proofs.YtmocpniibpnniaaGreat.fnGoals
