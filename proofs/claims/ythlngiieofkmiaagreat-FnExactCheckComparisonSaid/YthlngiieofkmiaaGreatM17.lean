/- The functions of this seat, as that machine runs them. -/
import Derived.Test.YthlngiieofkmiaaGreatM16
set_option linter.unusedVariables false
set_option linter.unusedSimpArgs false
namespace Go.Q
open Go
def nrR : Option (Nat × List Int) -> List Int -> List D
 | some x,acc => [.int (x.1 : Int),.sl ((acc ++ x.2).map iRow),.bool true]
 | none,_ => [.int 0,.sl [],.bool false]
def nrS : Option (Nat × List Int) -> List D
 | some x => [.int (x.1 : Int),.bool true,.sl (x.2.map iRow)]
 | none => [.int 0,.bool false,.sl []]
theorem pick_nil (rs : List (Option (Nat × List Int))) : pickF [] rs = none := rfl
theorem pick_cons {f : Tm -> Option (Nat × List Int)} {xs : List Tm} {m : Nat} (hm : m < xs.length) (q : List Int) : pickF ((m : Int) :: q) (xs.map f) = match f xs[m] with
 | some x => some (x.1,(m : Int) :: x.2)
 | none => pickF q (xs.map f) := by
 unfold pickF
 rw [List.findSome?_cons]
 have h0 : (0 : Int) <= (m : Int) := by omega
 simp only [h0,if_true,Int.toNat_natCast,List.getElem?_map,List.getElem?_eq_getElem hm,Option.map_some]
 cases f xs[m] <;> rfl
theorem stL_len (st : List StM) (t : Tm) : (stL st t).length <= st.length := by
 unfold stL
 split
 · exact strA_len st t.s
 · simp
noncomputable def cfg (d : DfM) (t : Tm) : Bool := d.valid && (t.valid && (isG t && !decide (sortT d.op [] t = e0)))
theorem cfg_of {d : DfM} {t : Tm} (hb : DfB d) (hw : Wt t) (h : cfg d t = true) : DfG d /\ Gt d.op t /\ t.nodes <= 60 := by
 simp only [cfg,Bool.and_eq_true,Bool.not_eq_true',decide_eq_false_iff_not] at h
 exact ⟨⟨hb,h.1⟩,⟨hw,valid_areN h.2.1,h.2.2.2⟩,valid_nodes h.2.1⟩
def rdRow (x : Nat × List Int) : List D := [.int (x.1 : Int),.sl (x.2.map iRow)]
def runZ : RunR := ⟨0,tm0,[],[]⟩
noncomputable def runT (d : DfM) (t : Tm) (f : Int) : Option RunR := if 0 <= f /\ f <= 200 /\ cfg d t = true then some (runF d f.toNat t) else none
end Go.Q
namespace Go.Q
open Go
theorem runF_none {d : DfM} {t : Tm} (h : nx d t = none) : ∀ n,runF d n t = ⟨1,t,[],[]⟩
 | 0 => by simp only [runF,h]
 | n + 1 => by simp only [runF,h]
theorem runF_zero {d : DfM} {t : Tm} {x : Nat × List Int} (h : nx d t = some x) : runF d 0 t = ⟨2,t,[],[]⟩ := by simp only [runF,h]
theorem runF_bad {d : DfM} {t : Tm} {x : Nat × List Int} (h : nx d t = some x) (hv : (stepT d t x.1 x.2).valid = false) (n : Nat) : runF d (n + 1) t = ⟨3,t,[],[]⟩ := by
 obtain ⟨i,p⟩ := x
 simp only at hv
 simp only [runF,h,hv,Bool.false_eq_true,if_false]
theorem runF_ok {d : DfM} {t : Tm} {x : Nat × List Int} (h : nx d t = some x) (hv : (stepT d t x.1 x.2).valid = true) (n : Nat) : runF d (n + 1) t = ⟨(runF d n (stepT d t x.1 x.2)).o,(runF d n (stepT d t x.1 x.2)).t,stepT d t x.1 x.2 :: (runF d n (stepT d t x.1 x.2)).st,x :: (runF d n (stepT d t x.1 x.2)).rd⟩ := by
 obtain ⟨i,p⟩ := x
 simp only at hv
 simp only [runF,h,hv,if_true]
theorem over_last' (xs : Rows) (k n k' n' : Int) (s s' : ByteArray) (a a' : Rows) : over xs.length [over 0 [.int k,.int n,.str s,.sl a] (rowAt (xs ++ [[.int k',.int n',.str s',.sl a']]) xs.length)] (xs ++ [[.int k',.int n',.str s',.sl a']]) = xs ++ [[.int k,.int n,.str s,.sl a]] := over_last xs _ _ rfl
def runD : Option RunR -> Tm -> List D
 | some r,t => [.int r.o,.int r.t.k,.int r.t.n,.str r.t.s,.int (r.rd.length : Int),.sl (r.t.as.map Tm.row),.sl ((t :: r.st).map Tm.row),.sl (r.rd.map rdRow)]
 | none,_ => [.int 0,.int 0,.int 0,.str e0,.int 0,.sl [],.sl [],.sl []]
def allD (r : RunR) (t : Tm) : List D := [.int r.o,.int r.t.k,.int r.t.n,.str r.t.s,.int (r.rd.length : Int),.sl (r.t.as.map Tm.row),.sl (r.rd.map rdRow),.sl ((t :: r.st).map Tm.row)]
end Go.Q
