/- The functions of this seat, as that machine runs them. -/
import Derived.Test.YtnjedojmdcpcaaaGreatcvE1
import Derived.Test.YtnjedojmdcpcaaaGreatcvE2
import Derived.Test.YtnjedojmdcpcaaaGreatcvE3
import Derived.Test.YtnjedojmdcpcaaaGreatRows
import Derived.JoinedOf
import Derived.ProofKit
namespace Go.Proofs.YtnjedojmdcpcaaaGreat.fnExactCheckVerdict
open Go
theorem named:Tryz.pinned.checked.prog.funcNamed Rows.fnExactCheckVerdictRow.func=some 10:=by kernel_rfl
end Go.Proofs.YtnjedojmdcpcaaaGreat.fnExactCheckVerdict
