/- The functions of this seat, as that machine runs them. -/
import Derived.Test.YtmocpniibpnniaaGreatfoE4
import Derived.Test.YtmocpniibpnniaaGreatRows
import Derived.JoinedOf
import Derived.ProofKit
namespace Go.Proofs.YtmocpniibpnniaaGreat.fnOpen
open Go
theorem closed:joinedFacts Tryz.pinned.checked.prog 4 Tryz.f4 Rows.fnOpenSpec Rows.fnOpenRow=true:=by
 unfold joinedFacts;rw [f25,f26,f27];kernel_rfl
end Go.Proofs.YtmocpniibpnniaaGreat.fnOpen
