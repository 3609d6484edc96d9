/- The functions of this seat, as that machine runs them. -/
import Derived.Test.YtilaihomkpjjnaaGreatRows
import Derived.JoinedOf
import Derived.ProofKit
namespace Go.Proofs.YtilaihomkpjjnaaGreat.fnPure
open Go
theorem f26:(Rows.fnPureRow.lifted==Tryz.pinned.checked.prog.liftsFinal)=true:=by kernel_rfl
end Go.Proofs.YtilaihomkpjjnaaGreat.fnPure
