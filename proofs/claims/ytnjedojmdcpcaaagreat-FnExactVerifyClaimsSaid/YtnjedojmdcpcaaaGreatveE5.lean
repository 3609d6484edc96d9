/- The functions of this seat, as that machine runs them. -/
import Derived.Test.YtnjedojmdcpcaaaGreatveE4
import Derived.Test.YtnjedojmdcpcaaaGreatRows
import Derived.JoinedOf
import Derived.ProofKit
namespace Go.Proofs.YtnjedojmdcpcaaaGreat.fnExactVerifyClaims
open Go
theorem closed:joinedFacts Tryz.pinned.checked.prog 13 Tryz.f13 Rows.fnExactVerifyClaimsSpec Rows.fnExactVerifyClaimsRow=true:=by
 unfold joinedFacts;rw [f25,f26,f27];kernel_rfl
end Go.Proofs.YtnjedojmdcpcaaaGreat.fnExactVerifyClaims
