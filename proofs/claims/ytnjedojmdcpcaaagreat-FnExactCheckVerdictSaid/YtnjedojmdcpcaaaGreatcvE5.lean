/- The functions of this seat, as that machine runs them. -/
import Derived.Test.YtnjedojmdcpcaaaGreatcvE4
import Derived.Test.YtnjedojmdcpcaaaGreatRows
import Derived.JoinedOf
import Derived.ProofKit
namespace Go.Proofs.YtnjedojmdcpcaaaGreat.fnExactCheckVerdict
open Go
theorem closed:joinedFacts Tryz.pinned.checked.prog 10 Tryz.f10 Rows.fnExactCheckVerdictSpec Rows.fnExactCheckVerdictRow=true:=by
 unfold joinedFacts;rw [f25,f26,f27];kernel_rfl
end Go.Proofs.YtnjedojmdcpcaaaGreat.fnExactCheckVerdict
