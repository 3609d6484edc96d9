/- The functions of this seat, as that machine runs them. -/
import Derived.Test.YtnjedojmdcpcaaaGreatfP22
import Derived.Test.YtnjedojmdcpcaaaGreatMA
set_option linter.unusedVariables false
set_option linter.unusedSimpArgs false
namespace Go.Q.S
open Go Go.Q Go.Proofs
theorem r203 (g:ClM) (hb:ClB g) (t:Tm) (ht:Small t) (cl:List Int) (hcl:cl.length<=1048576) (hc:∀ k∈cl,isC g.v.length k=true):rn ⟨203,0,0⟩ [.sl (g.v.map sRow),.int (g.l).k,.int (g.l).n,.str (g.l).s,.sl ((g.l).as.map Tm.row),.int (g.r).k,.int (g.r).n,.str (g.r).s,.sl ((g.r).as.map Tm.row),.sl (g.g.map Gu.row),.sl (g.v.map sRow),.int t.k,.int t.n,.str t.s,.sl (t.as.map Tm.row),.sl (cl.map iRow)]=some (0,[.int t.k,.int t.n,.str t.s,.sl (g.v.map sRow),.sl (t.as.map Tm.row),.sl ((opC g t cl).map iRow)]):=by
 have h1:=opS g hb t ht cl hcl hc;have hv:=hb.v;have b1:Nat.ble (0+g.v.length) M63=true:=nb (by omega)
 have b2:Nat.ble (0+cl.length) M63=true:=nb (by omega)
 have h2:=r188 t ht;have h3:rn ⟨280,0,0⟩ [.sl (g.v.map sRow),.int t.k,.int t.n,.str t.s,.sl (t.as.map Tm.row),.sl (cl.map iRow)]=some (0,[.int t.k,.int t.n,.str t.s,.sl (g.v.map sRow),.sl (t.as.map Tm.row),.sl (cl.map iRow)]):=by
  rw [e280_0_0];simp only [List.length_nil,List.length_map,b1,b2,cond_true,h2,nv0,nvS,dvI,dvB,dvS,dvL,Option.bind_some,List.nil_append]
 rw [e203_0_0];simp only [h3,h1,nv0,nvS,dvI,dvB,dvS,dvL,Option.bind_some]
end Go.Q.S
