/- The functions of this seat, as that machine runs them. -/
import Derived.Test.YtnjedojmdcpcaaaGreatuE1
import Derived.Test.YtnjedojmdcpcaaaGreatuE2
import Derived.Test.YtnjedojmdcpcaaaGreatuE3
import Derived.Test.YtnjedojmdcpcaaaGreatRows
import Derived.JoinedOf
import Derived.ProofKit
namespace Go.Proofs.YtnjedojmdcpcaaaGreat.fnExactBranchesOf
open Go
theorem named:Tryz.pinned.checked.prog.funcNamed Rows.fnExactBranchesOfRow.func=some 5:=by kernel_rfl
end Go.Proofs.YtnjedojmdcpcaaaGreat.fnExactBranchesOf
