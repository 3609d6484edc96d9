/- The functions of this seat, as that machine runs them. -/
import Derived.Test.YtnjedojmdcpcaaaGreatpaE1
import Derived.Test.YtnjedojmdcpcaaaGreatpaE2
import Derived.Test.YtnjedojmdcpcaaaGreatpaE3
import Derived.Test.YtnjedojmdcpcaaaGreatRows
import Derived.JoinedOf
import Derived.ProofKit
namespace Go.Proofs.YtnjedojmdcpcaaaGreat.fnExactProveAll
open Go
theorem named:Tryz.pinned.checked.prog.funcNamed Rows.fnExactProveAllRow.func=some 12:=by kernel_rfl
end Go.Proofs.YtnjedojmdcpcaaaGreat.fnExactProveAll
