/- The functions of this seat, as that machine runs them. -/
import Derived.Test.YtlhkpdimkimogaaRows
import Derived.JoinedOf
import Derived.ProofKit
namespace Go.Proofs.Ytlhkpdimkimogaa.fnSubst
open Go
theorem f26:(Rows.fnSubstRow.lifted==Try.pinned.checked.prog.liftsFinal)=true:=by kernel_rfl
end Go.Proofs.Ytlhkpdimkimogaa.fnSubst
