/- The functions of this seat, as that machine runs them. -/
import Derived.Test.YtboolhhmagjadaabG
import Derived.Test.YtboolhhmagjadaabK
import Derived.Test.YtboolhhmagjadaaM9
import Derived.Test.YtboolhhmagjadaabY
set_option linter.unusedVariables false
set_option linter.unusedSimpArgs false
namespace Go.Q.S
open Go Go.Q Go.Proofs

def RL : List (Nat × Nat) := [(3, 3), (9, 9), (43, 43), (43, 50), (46, 46), (46, 53), (50, 43), (50, 50), (53, 46), (53, 53), (62, 62), (62, 72), (64, 64), (64, 74), (67, 67), (72, 62), (72, 72), (74, 64), (74, 74), (111, 111), (111, 177), (177, 111), (177, 177), (185, 185), (185, 186), (186, 185), (186, 186)]
theorem simR : simB H RL = true := by kernel_rfl
theorem cv {ds : List D} {c c' : List CT} (h : WL H ds c) (hc : layB RL c c' = true) : WL H ds c' := WL.conv simR ds h hc
theorem bd20 : Bd 1048576 := by unfold Bd; omega
theorem sub_le {b : Int} {n : Nat} (h : ¬ sub b n < 0) : (n : Int) ≤ b ∧ sub b n = b - n := by unfold sub at *; split at h <;> simp_all
theorem tmTy : TmTy H 50 [.int .i64, .int .i64, .str, .sl 50] := ⟨rfl, _, ty50, rfl⟩
theorem wide64 : ∀ e ti, H.ty e = some ti → ti.lay.length ≤ 64 := fun e ti h => by
  have hq : tyL.all (fun p => Nat.ble p.2.lay.length 64) = true := by kernel_rfl
  have := List.all_eq_true.1 hq _ (lookN_mem (show lookN tyL e = some ti from h))
  exact Nat.le_of_ble_eq_true this

end Go.Q.S
