/- The functions of this seat, as that machine runs them. -/
import Derived.Test.YtnjedojmdcpcaaaGreatuE4
import Derived.Test.YtnjedojmdcpcaaaGreatRows
import Derived.JoinedOf
import Derived.ProofKit
namespace Go.Proofs.YtnjedojmdcpcaaaGreat.fnExactBranchesOf
open Go
theorem closed:joinedFacts Tryz.pinned.checked.prog 5 Tryz.f5 Rows.fnExactBranchesOfSpec Rows.fnExactBranchesOfRow=true:=by
 unfold joinedFacts
 rw [f25,f26,f27]
 kernel_rfl
end Go.Proofs.YtnjedojmdcpcaaaGreat.fnExactBranchesOf
