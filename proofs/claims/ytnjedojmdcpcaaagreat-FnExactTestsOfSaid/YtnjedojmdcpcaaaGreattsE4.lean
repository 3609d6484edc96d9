/- The functions of this seat, as that machine runs them. -/
import Derived.Test.YtnjedojmdcpcaaaGreattsE1
import Derived.Test.YtnjedojmdcpcaaaGreattsE2
import Derived.Test.YtnjedojmdcpcaaaGreattsE3
import Derived.Test.YtnjedojmdcpcaaaGreatRows
import Derived.JoinedOf
import Derived.ProofKit
namespace Go.Proofs.YtnjedojmdcpcaaaGreat.fnExactTestsOf
open Go
theorem named:Tryz.pinned.checked.prog.funcNamed Rows.fnExactTestsOfRow.func=some 7:=by kernel_rfl
end Go.Proofs.YtnjedojmdcpcaaaGreat.fnExactTestsOf
