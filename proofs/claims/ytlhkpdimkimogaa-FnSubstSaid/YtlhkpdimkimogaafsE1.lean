/- The functions of this seat, as that machine runs them. -/
import Derived.Test.YtlhkpdimkimogaaRows
import Derived.JoinedOf
import Derived.ProofKit
namespace Go.Proofs.Ytlhkpdimkimogaa.fnSubst
open Go
theorem f25:Try.pinned.checked.prog.mayEnter=true:=by kernel_rfl
end Go.Proofs.Ytlhkpdimkimogaa.fnSubst
