/- The functions of this seat, as that machine runs them. -/
import Derived.Test.YtebncngjklhbfaaGreatftE1
import Derived.Test.YtebncngjklhbfaaGreatftE2
import Derived.Test.YtebncngjklhbfaaGreatftE3
import Derived.Test.YtebncngjklhbfaaGreatRows
import Derived.JoinedOf
import Derived.ProofKit
namespace Go.Proofs.YtebncngjklhbfaaGreat.fnTranslated
open Go
theorem named:Tryz.pinned.checked.prog.funcNamed Rows.fnTranslatedRow.func=some 3:=by kernel_rfl
end Go.Proofs.YtebncngjklhbfaaGreat.fnTranslated
