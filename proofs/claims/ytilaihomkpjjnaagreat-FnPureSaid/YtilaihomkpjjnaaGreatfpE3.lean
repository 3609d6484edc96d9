/- The functions of this seat, as that machine runs them. -/
import Derived.Test.YtilaihomkpjjnaaGreatRows
import Derived.JoinedOf
import Derived.ProofKit
namespace Go.Proofs.YtilaihomkpjjnaaGreat.fnPure
open Go
theorem f27:(Tryz.pinned.checked.prog.make==some Rows.fnPureRow.make)=true:=by kernel_rfl
end Go.Proofs.YtilaihomkpjjnaaGreat.fnPure
