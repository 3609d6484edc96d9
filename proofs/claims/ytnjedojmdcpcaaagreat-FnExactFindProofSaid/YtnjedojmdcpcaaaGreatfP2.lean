/- The functions of this seat, as that machine runs them. -/
import Derived.Test.YtnjedojmdcpcaaaGreatfT
set_option linter.unusedVariables false
set_option linter.unusedSimpArgs false
namespace Go.Q.S
open Go Go.Q Go.Proofs
theorem r174 (vs cs0 cs:Rows) (t:Tm) (h:Small t) (h1:vs.length<=274877906944) (h2:cs.length<=274877906944):rn ⟨174,0,0⟩ [.sl vs,.int t.k,.int t.n,.str t.s,.sl (t.as.map Tm.row),.sl cs0,.sl cs]=some (0,[.int t.k,.int t.n,.str t.s,.sl vs,.sl (t.as.map Tm.row),.sl cs]):=by
 rw [e174_0_0];simp only [rCloneS vs h1,rCloneI cs h2,r259 t h,nth0,nth1,nth2,nth3,nth4,nth5,nth6,nth7,nth8,nth9,nth10,nth11,nth12,nth13,nth14,nth15,nth16,nth17,nth18,nth19,nth20,nth21,nth22,nth23,nth24,nth25,dI,dB,dS,dL,Option.bind_some]
theorem r131 (vars:List ByteArray) (hv:vars.length<=1048576) (l r:Tm) (h:Small l) (gs:List Gu) (hg:gs.length<=1048576) (hk:∀ g∈gs,g.ok):rn ⟨131,0,0⟩ [.sl (vars.map sRow),.int l.k,.int l.n,.str l.s,.sl (l.as.map Tm.row),.int r.k,.int r.n,.str r.s,.sl (r.as.map Tm.row),.sl (gs.map Gu.row)] =
 some (0,[.int l.k,.int l.n,.str l.s,.sl (vars.map sRow),.sl (l.as.map Tm.row),.sl ((allC vars gs).map nRow)]):=by
 have hc:(allC vars gs).length<=274877906944:=by
  unfold allC;refine Nat.le_trans (List.length_filter_le _ _) ?_;have:=(cnt4_le vars.length).2;simp; omega
 rw [e131_0_0];simp only [r213 vars gs hg hk,nth0,nth1,nth2,nth3,nth4,nth5,nth6,nth7,nth8,nth9,nth10,nth11,nth12,nth13,nth14,nth15,nth16,nth17,nth18,nth19,nth20,nth21,nth22,nth23,nth24,nth25,dI,dB,dS,dL,Option.bind_some];rw [r174 _ _ _ l h (by simp; omega) (by simpa using hc)]
 simp only [nth0,nth1,nth2,nth3,nth4,nth5,nth6,nth7,nth8,nth9,nth10,nth11,nth12,nth13,nth14,nth15,nth16,nth17,nth18,nth19,nth20,nth21,nth22,nth23,nth24,nth25,dI,dB,dS,dL,Option.bind_some]
theorem r126 (vars:List ByteArray) (hv:vars.length<=1048576) (l r:Tm) (h:Small l) (gs:List Gu) (hg:gs.length<=1048576) (hk:∀ g∈gs,g.ok):rn ⟨126,0,0⟩ [.sl (vars.map sRow),.int l.k,.int l.n,.str l.s,.sl (l.as.map Tm.row),.int r.k,.int r.n,.str r.s,.sl (r.as.map Tm.row),.sl (gs.map Gu.row)] =
 some (0,[.int l.k,.int l.n,.str l.s,.sl (vars.map sRow),.sl (l.as.map Tm.row),.sl ((allC vars gs).map nRow)]):=by
 rw [e126_0_0];rw [show Nat.ble (([]:Rows).length+(vars.map sRow).length) M63=true from Nat.ble_eq_true_of_le (by unfold M63; simp; omega)]
 simp only [r188 l h,r205 vars gs hg hk,cond_true,nth0,nth1,nth2,nth3,nth4,nth5,nth6,nth7,nth8,nth9,nth10,nth11,nth12,nth13,nth14,nth15,nth16,nth17,nth18,nth19,nth20,nth21,nth22,nth23,nth24,nth25,dI,dB,dS,dL,Option.bind_some,List.nil_append]
end Go.Q.S
