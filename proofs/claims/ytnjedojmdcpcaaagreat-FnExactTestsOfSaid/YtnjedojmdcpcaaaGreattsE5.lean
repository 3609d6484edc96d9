/- The functions of this seat, as that machine runs them. -/
import Derived.Test.YtnjedojmdcpcaaaGreattsE4
import Derived.Test.YtnjedojmdcpcaaaGreatRows
import Derived.JoinedOf
import Derived.ProofKit
namespace Go.Proofs.YtnjedojmdcpcaaaGreat.fnExactTestsOf
open Go
theorem closed:joinedFacts Tryz.pinned.checked.prog 7 Tryz.f7 Rows.fnExactTestsOfSpec Rows.fnExactTestsOfRow=true:=by
 unfold joinedFacts;rw [f25,f26,f27];kernel_rfl
end Go.Proofs.YtnjedojmdcpcaaaGreat.fnExactTestsOf
