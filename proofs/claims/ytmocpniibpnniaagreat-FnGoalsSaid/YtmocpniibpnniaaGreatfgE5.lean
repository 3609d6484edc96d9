/- The functions of this seat, as that machine runs them. -/
import Derived.Test.YtmocpniibpnniaaGreatfgE4
import Derived.Test.YtmocpniibpnniaaGreatRows
import Derived.JoinedOf
import Derived.ProofKit
namespace Go.Proofs.YtmocpniibpnniaaGreat.fnGoals
open Go
theorem closed:joinedFacts Tryz.pinned.checked.prog 3 Tryz.f3 Rows.fnGoalsSpec Rows.fnGoalsRow=true:=by
 unfold joinedFacts;rw [f25,f26,f27];kernel_rfl
end Go.Proofs.YtmocpniibpnniaaGreat.fnGoals
