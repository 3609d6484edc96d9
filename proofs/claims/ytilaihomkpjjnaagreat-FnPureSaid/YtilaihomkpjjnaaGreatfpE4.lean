/- The functions of this seat, as that machine runs them. -/
import Derived.Test.YtilaihomkpjjnaaGreatfpE1
import Derived.Test.YtilaihomkpjjnaaGreatfpE2
import Derived.Test.YtilaihomkpjjnaaGreatfpE3
import Derived.Test.YtilaihomkpjjnaaGreatRows
import Derived.JoinedOf
import Derived.ProofKit
namespace Go.Proofs.YtilaihomkpjjnaaGreat.fnPure
open Go
theorem Wr:Tryz.pinned.checked.prog.funcNamed Rows.fnPureRow.func=some 3:=by kernel_rfl
end Go.Proofs.YtilaihomkpjjnaaGreat.fnPure
