/- The functions of this seat, as that machine runs them. -/
import Derived.Test.YthlngiieofkmiaaGreatM11
set_option linter.unusedVariables false
set_option linter.unusedSimpArgs false
namespace Go.Q
open Go
def wv (vars : List ByteArray) : List VS := vars.map fun s => (s,wordS)
def symV (d : DfM) (vars : List ByteArray) (t : Tm) : Bool :=
 d.valid && (decide (vars.length <= 3) && (dis vars && (vars.all isVr && (t.valid && (within t vars && !decide (sortT d.op (wv vars) t = e0))))))
structure ClM where
 d : DfM
 v : List ByteArray
 l : Tm
 r : Tm
 g : List Gu
def ClM.row (c : ClM) : List D := [.sl (c.d.so.map sRow),.sl (c.d.op.map OpM.row),.sl (c.d.ru.map RuM.row),.sl (c.d.st.map StM.row),.sl (c.v.map sRow),.int c.l.k,.int c.l.n,.str c.l.s,.sl (c.l.as.map Tm.row),.int c.r.k,.int c.r.n,.str c.r.s,.sl (c.r.as.map Tm.row),.sl (c.g.map Gu.row)]
structure ClB (c : ClM) : Prop where
 d : DfB c.d
 v : c.v.length <= 1048576
 vs : ∀ x ∈ c.v,x.size <= maxLen
 wl : Wt c.l
 wr : Wt c.r
 ln : c.l.nodes <= 1048577
 rn : c.r.nodes <= 1048577
 g : c.g.length <= 1048576
 ga : ∀ g ∈ c.g,GuB g
def ClM.valid (c : ClM) : Bool := symV c.d c.v c.l && (symV c.d c.v c.r && (decide (sortT c.d.op (wv c.v) c.l = sortT c.d.op (wv c.v) c.r) && gusOK c.d.op (wv c.v) c.g))
theorem wv_names (vars : List ByteArray) : ∀ v ∈ wv vars,v.1 ∈ vars := fun v hv => by
 obtain ⟨s,h,e⟩ := List.mem_map.1 hv
 exact e ▸ h
end Go.Q
