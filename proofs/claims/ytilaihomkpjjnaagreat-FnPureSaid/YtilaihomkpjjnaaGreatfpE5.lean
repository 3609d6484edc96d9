/- The functions of this seat, as that machine runs them. -/
import Derived.Test.YtilaihomkpjjnaaGreatfpE4
import Derived.Test.YtilaihomkpjjnaaGreatRows
import Derived.JoinedOf
import Derived.ProofKit
namespace Go.Proofs.YtilaihomkpjjnaaGreat.fnPure
open Go
theorem uj:joinedFacts Tryz.pinned.checked.prog 3 Tryz.f3 Rows.fnPureSpec Rows.fnPureRow=true:=by
 unfold joinedFacts;rw [f25,f26,f27];kernel_rfl
end Go.Proofs.YtilaihomkpjjnaaGreat.fnPure
