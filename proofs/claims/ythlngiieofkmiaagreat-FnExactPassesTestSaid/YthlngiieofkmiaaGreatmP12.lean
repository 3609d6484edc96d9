/- The functions of this seat, as that machine runs them. -/
import Derived.Test.YthlngiieofkmiaaGreatmP11d
import Derived.Test.YthlngiieofkmiaaGreatM18
set_option linter.unusedVariables false
set_option linter.unusedSimpArgs false
namespace Go.Q.S
open Go Go.Q Go.Proofs
theorem r34 (d : DfM) (hb : DfB d) (t : Tm) (hw : Wt t) (hn : t.nodes ≤ 1048577) (f : Int) : rn ⟨34, 0, 0⟩ [.sl (d.so.map sRow), .sl (d.op.map OpM.row), .sl (d.ru.map RuM.row), .sl (d.st.map StM.row), .int t.k, .int t.n, .str t.s, .sl (t.as.map Tm.row), .int f] = some (0, rtD (runT d t f)) := by
  have h1 := r101 d hb t hw hn f
  rw [e34_0_0, h1]
  cases runT d t f <;> rfl
theorem r33 (d : DfM) (hb : DfB d) (t : Tm) (hw : Wt t) (hn : t.nodes ≤ 1048577) (f : Int) : rn ⟨33, 0, 0⟩ [.sl (d.so.map sRow), .sl (d.op.map OpM.row), .sl (d.ru.map RuM.row), .sl (d.st.map StM.row), .int t.k, .int t.n, .str t.s, .sl (t.as.map Tm.row), .int f] = some (0, rtD (runT d t f)) := by
  have h1 := r97 d hb t hw hn f
  rw [e33_0_0, h1, runT_if]
  cases hc : (cfg d t && (decide (0 ≤ f) && decide (f ≤ 200))) with
  | false => rfl
  | true =>
    simp only [Bool.and_eq_true, decide_eq_true_eq] at hc
    have h2 := r98 d hb t hw f hc.2.1 hc.2.2 hc.1
    simp only [nv0, nv1, nv2, nv3, nv4, nv5, nv6, nv7, nv8, nv9, nv10, nv11, nv12, nv13, nv14, nv15, nv16, nv17, nv18, nv19, nv20, nv21, nv22, nv23, nv24, nv25, dvI, dvB, dvS, dvL, Option.bind_some, Bool.not_true, cond_false, cond_true, h2, allD, rtD]
noncomputable def passR (d : DfM) (t g : Tm) (n : Int) : Bool := match runT d t 200 with
  | some r => decide (r.o = 1) && (eqb r.t.row g.row && decide ((r.rd.length : Int) = n))
  | none => false
theorem r31 (d : DfM) (hb : DfB d) (a : Rows) (t : Tm) (hw : Wt t) (hn : t.nodes ≤ 1048577) (g : Tm) (n : Int) : rn ⟨31, 0, 0⟩ [.sl (d.so.map sRow), .sl (d.op.map OpM.row), .sl (d.ru.map RuM.row), .sl (d.st.map StM.row), .sl a, .int t.k, .int t.n, .str t.s, .sl (t.as.map Tm.row), .int g.k, .int g.n, .str g.s, .sl (g.as.map Tm.row), .int n] = some (0, [.bool (passR d t g n)]) := by
  have h1 := r34 d hb t hw hn 200
  rw [e31_0_0, h1]
  unfold passR
  cases hr : runT d t 200 with
  | none => rfl
  | some r =>
    obtain ⟨gd, _⟩ := runT_good hb hw hr
    have he := r104 r.t g (small_of _ (by have := gd.tn; omega))
    simp only [rtD, nv0, nv1, nv2, nv3, nv4, nv5, nv6, nv7, nv8, nv9, nv10, nv11, nv12, nv13, nv14, nv15, nv16, nv17, nv18, nv19, nv20, nv21, nv22, nv23, nv24, nv25, dvI, dvB, dvS, dvL, Option.bind_some, he]
    cases decide (r.o = 1) <;> cases eqb r.t.row g.row <;> rfl
theorem r29 (d : DfM) (hb : DfB d) (a : Rows) (t : Tm) (hw : Wt t) (hn : t.nodes ≤ 1048577) (g : Tm) (n : Int) : rn ⟨29, 0, 0⟩ [.sl (d.so.map sRow), .sl (d.op.map OpM.row), .sl (d.ru.map RuM.row), .sl (d.st.map StM.row), .sl a, .int t.k, .int t.n, .str t.s, .sl (t.as.map Tm.row), .int g.k, .int g.n, .str g.s, .sl (g.as.map Tm.row), .int n] = some (0, [.bool (passR d t g n)]) := by
  have h1 := r33 d hb t hw hn 200
  rw [e29_0_0, h1]
  unfold passR
  cases hr : runT d t 200 with
  | none => rfl
  | some r =>
    obtain ⟨gd, _⟩ := runT_good hb hw hr
    have he := r99 r.t g (small_of _ (by have := gd.tn; omega))
    simp only [rtD, nv0, nv1, nv2, nv3, nv4, nv5, nv6, nv7, nv8, nv9, nv10, nv11, nv12, nv13, nv14, nv15, nv16, nv17, nv18, nv19, nv20, nv21, nv22, nv23, nv24, nv25, dvI, dvB, dvS, dvL, Option.bind_some, he]
    cases decide (r.o = 1) <;> cases decide ((r.rd.length : Int) = n) <;> cases eqb r.t.row g.row <;> rfl
end Go.Q.S
