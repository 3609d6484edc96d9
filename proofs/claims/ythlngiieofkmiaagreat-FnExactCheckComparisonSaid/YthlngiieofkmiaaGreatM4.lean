/- The functions of this seat, as that machine runs them. -/
import Derived.Test.YthlngiieofkmiaaGreatM3
set_option linter.unusedVariables false
namespace Go.Q.S
open Go Go.Q
def DT (code : Rows) (m : Nat) (x : Nat × List D) : Prop := ∃ t : Tm,∃ i' : Nat,∃ h' : Int,t.nodes <= m /\ x = (0,[.int t.k,.int t.n,.str t.s,.sl (t.as.map Tm.row),.sl code,.int (i' : Int),.int h'])
theorem leafV {code : Rows} {m : Nat} {s : ByteArray} {i : Nat} {h : Int} (hm : 1 <= m) : Good (some (0,[.int 1,.int 0,.str s,.sl [],.sl code,.int (i : Int),.int h])) (DT code m) :=
 Good.ret ⟨.mk 1 0 s [],i,h,by simp [Tm.nodes,Tm.nodesL]; exact hm,rfl⟩
theorem leafC {code : Rows} {m : Nat} {s : ByteArray} {i : Nat} {h : Int} (hm : 1 <= m) : Good (some (0,[.int 2,.int 0,.str s,.sl [],.sl code,.int (i : Int),.int h])) (DT code m) :=
 Good.ret ⟨.mk 2 0 s [],i,h,by simp [Tm.nodes,Tm.nodesL]; exact hm,rfl⟩
theorem leafW {code : Rows} {m : Nat} {n : Int} {s : ByteArray} {i : Nat} {h : Int} (hm : 1 <= m) : Good (some (0,[.int 3,.int n,.str s,.sl [],.sl code,.int (i : Int),.int h])) (DT code m) :=
 Good.ret ⟨.mk 3 n s [],i,h,by simp [Tm.nodes,Tm.nodesL]; exact hm,rfl⟩
theorem leaf1 {code : Rows} {m : Nat} {s : ByteArray} {t : Tm} {i : Nat} {h : Int} (hm : t.nodes + 1 <= m) : Good (some (0,[.int 2,.int 0,.str s,.sl [t.row],.sl code,.int (i : Int),.int h])) (DT code m) :=
 Good.ret ⟨.mk 2 0 s [t],i,h,by simp [Tm.nodes,Tm.nodesL]; omega,rfl⟩
theorem leaf2 {code : Rows} {m : Nat} {s : ByteArray} {t u : Tm} {i : Nat} {h : Int} (hm : t.nodes + u.nodes + 1 <= m) : Good (some (0,[.int 2,.int 0,.str s,.sl [t.row,u.row],.sl code,.int (i : Int),.int h])) (DT code m) :=
 Good.ret ⟨.mk 2 0 s [t,u],i,h,by simp [Tm.nodes,Tm.nodesL]; omega,rfl⟩
theorem wrap_dec {d : Nat} (h : d <= 64) : IntKind.i64.wrap (((d + 1 : Nat) : Int) - 1) = (d : Int) := by
 unfold IntKind.wrap; simp [IntKind.bits,IntKind.signed]; omega
end Go.Q.S
