/- The functions of this seat, as that machine runs them. -/
import Derived.Test.YtmocpniibpnniaaGreatRows
import Derived.JoinedOf
import Derived.ProofKit
namespace Go.Proofs.YtmocpniibpnniaaGreat.fnGoals
open Go
theorem f27:(Tryz.pinned.checked.prog.make==some Rows.fnGoalsRow.make)=true:=by kernel_rfl
end Go.Proofs.YtmocpniibpnniaaGreat.fnGoals
