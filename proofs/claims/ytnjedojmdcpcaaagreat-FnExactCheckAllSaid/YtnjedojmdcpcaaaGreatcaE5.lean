/- The functions of this seat, as that machine runs them. -/
import Derived.Test.YtnjedojmdcpcaaaGreatcaE4
import Derived.Test.YtnjedojmdcpcaaaGreatRows
import Derived.JoinedOf
import Derived.ProofKit
namespace Go.Proofs.YtnjedojmdcpcaaaGreat.fnExactCheckAll
open Go
theorem closed:joinedFacts Tryz.pinned.checked.prog 9 Tryz.f9 Rows.fnExactCheckAllSpec Rows.fnExactCheckAllRow=true:=by
 unfold joinedFacts;rw [f25,f26,f27];kernel_rfl
end Go.Proofs.YtnjedojmdcpcaaaGreat.fnExactCheckAll
