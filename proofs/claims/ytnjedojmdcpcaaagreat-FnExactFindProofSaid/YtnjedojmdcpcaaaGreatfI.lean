/- The functions of this seat, as that machine runs them. -/
import Derived.Test.YtnjedojmdcpcaaaGreatfF
import Derived.Test.YtnjedojmdcpcaaaGreatfK
import Derived.Test.YtnjedojmdcpcaaaGreatMA
import Derived.Test.YtnjedojmdcpcaaaGreatfY
set_option linter.unusedVariables false
set_option linter.unusedSimpArgs false
namespace Go.Q.S
open Go Go.Q Go.Proofs
def L74:List CT:=[.sl 170]
theorem ty74:H.ty 74=some ⟨false,L74,[]⟩:=by kernel_rfl
theorem wl74 {ds:List D} (h:WL H ds L74):∃ a0,ds=[D.sl a0]/\a0.length<=maxLen/\WRs H a0 L170:=by
 unfold L74 at h;obtain ⟨a0,_,rfl,b0,c0,h⟩:=wl_sl ty170 h;obtain rfl:=wl_nil h;exact ⟨a0,rfl,b0,c0⟩
def RL:List (Nat × Nat):=[(3,3),(9,9),(25,25),(25,41),(29,29),(29,45),(32,32),(32,49),(41,25),(41,41),(45,29),(45,45),(49,32),(49,49),(74,74),(85,85),(170,170),(170,177),(177,170),(177,177),(197,197),(197,213),(200,200),(200,215),(213,197),(213,213),(215,200),(215,215),(251,251),(275,275),(275,311),(279,279),(279,286),(286,279),(286,286),(299,299),(311,275),(311,311)]
theorem simR:simB H RL=true:=by kernel_rfl
theorem cv {ds:List D} {c c':List CT} (h:WL H ds c) (hc:layB RL c c'=true):WL H ds c':=WL.conv simR ds h hc
theorem bd20:Bd 1048576:=by unfold Bd; omega
theorem sub_le {b:Int} {n:Nat} (h:¬ sub b n<0):(n:Int)<=b/\sub b n=b-n:=by unfold sub at *; split at h <;> simp_all
theorem tmTy:TmTy H 49 [.int .i64,.int .i64,.str,.sl 49]:=⟨rfl,_,ty49,rfl⟩
theorem wide64:∀ e ti,H.ty e=some ti->ti.lay.length<=64:=fun e ti h=>by
 have hq:tyL.all (fun p=>Nat.ble p.2.lay.length 64)=true:=by kernel_rfl
 have:=List.all_eq_true.1 hq _ (lookN_mem (show lookN tyL e=some ti from h))
 exact Nat.le_of_ble_eq_true this
end Go.Q.S
