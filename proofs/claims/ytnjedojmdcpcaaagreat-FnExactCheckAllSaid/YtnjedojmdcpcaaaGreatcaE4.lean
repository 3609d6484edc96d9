/- The functions of this seat, as that machine runs them. -/
import Derived.Test.YtnjedojmdcpcaaaGreatcaE1
import Derived.Test.YtnjedojmdcpcaaaGreatcaE2
import Derived.Test.YtnjedojmdcpcaaaGreatcaE3
import Derived.Test.YtnjedojmdcpcaaaGreatRows
import Derived.JoinedOf
import Derived.ProofKit
namespace Go.Proofs.YtnjedojmdcpcaaaGreat.fnExactCheckAll
open Go
theorem named:Tryz.pinned.checked.prog.funcNamed Rows.fnExactCheckAllRow.func=some 9:=by kernel_rfl
end Go.Proofs.YtnjedojmdcpcaaaGreat.fnExactCheckAll
