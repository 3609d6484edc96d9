/- The functions of this seat, as that machine runs them. -/
import Derived.Test.YtnjedojmdcpcaaaGreatssE1
import Derived.Test.YtnjedojmdcpcaaaGreatssE2
import Derived.Test.YtnjedojmdcpcaaaGreatssE3
import Derived.Test.YtnjedojmdcpcaaaGreatRows
import Derived.JoinedOf
import Derived.ProofKit
namespace Go.Proofs.YtnjedojmdcpcaaaGreat.fnExactStepSymbolic
open Go
theorem named:Tryz.pinned.checked.prog.funcNamed Rows.fnExactStepSymbolicRow.func=some 4:=by kernel_rfl
end Go.Proofs.YtnjedojmdcpcaaaGreat.fnExactStepSymbolic
