/- The functions of this seat, as that machine runs them. -/
import Derived.Test.YthlngiieofkmiaaGreatkP11d
import Derived.Test.YthlngiieofkmiaaGreatM18
set_option linter.unusedVariables false
set_option linter.unusedSimpArgs false
namespace Go.Q.S
open Go Go.Q Go.Proofs
theorem r117 (l : List (Nat × List Int)) (hl : l.length ≤ 1048576) (hp : ∀ x ∈ l, x.2.length ≤ 1048576) : rn ⟨117, 0, 0⟩ [.sl (l.map rdRow)] = some (0, [.sl (l.map rdRow)]) := by
  have hf := map_loop (F := fun i acc => rn ⟨117, 0, 1⟩ [.sl (l.map rdRow), .int (l.length : Int), .int (i : Int), .sl acc]) (xs := l) rdRow (K := fun acc => some (0, [.sl acc])) (fun i hi acc ha => by
    have h1 := rCloneI (l[i].2.map iRow) (by rw [List.length_map]; have := hp _ (List.getElem_mem hi); omega)
    have hb2 : Nat.ble (acc.length + 1) M63 = true := nb (by omega)
    rw [e117_0_1]
    simp only [List.length_map, Int.ofNat_lt, hi, decide_true, cond_true, inbN, Int.toNat_natCast, rowAt_map hi, wrap_succ hi (maxB (by omega)), rdRow, nv0, nv1, nv2, nv3, nv4, nv5, nv6, nv7, nv8, nv9, nv10, nv11, nv12, nv13, nv14, nv15, nv16, nv17, nv18, nv19, nv20, nv21, nv22, nv23, nv24, nv25, dvI, dvB, dvS, dvL, Option.bind_some, h1, List.length_cons, List.length_nil, Nat.zero_add, hb2]) (fun acc => by
    rw [e117_0_1]
    simp)
  simp only [Int.natCast_zero] at hf
  rw [e117_0_0]
  simp only [List.length_map, hf, nv0, nv1, nv2, nv3, nv4, nv5, nv6, nv7, nv8, nv9, nv10, nv11, nv12, nv13, nv14, nv15, nv16, nv17, nv18, nv19, nv20, nv21, nv22, nv23, nv24, nv25, dvI, dvB, dvS, dvL, Option.bind_some, Nat.beq_refl, cond_true, cond_false]
theorem r44 (d : DfM) (hb : DfB d) (t : Tm) (hw : Wt t) (hn : t.nodes ≤ 1048577) (f : Int) : rn ⟨44, 0, 0⟩ [.sl (d.so.map sRow), .sl (d.op.map OpM.row), .sl (d.ru.map RuM.row), .sl (d.st.map StM.row), .int t.k, .int t.n, .str t.s, .sl (t.as.map Tm.row), .int f] = some (0, [.sl (trD (runT d t f))]) := by
  have h1 := r101 d hb t hw hn f
  rw [e44_0_0, h1]
  cases hr : runT d t f with
  | none =>
    have h2 := r117 [] (by simp) (by simp)
    simp only [List.map_nil] at h2
    simp only [runD, nv0, nv1, nv2, nv3, nv4, nv5, nv6, nv7, nv8, nv9, nv10, nv11, nv12, nv13, nv14, nv15, nv16, nv17, nv18, nv19, nv20, nv21, nv22, nv23, nv24, nv25, dvI, dvB, dvS, dvL, Option.bind_some, h2, trD]
  | some r =>
    obtain ⟨g, _⟩ := runT_good hb hw hr
    have h2 := r117 r.rd (by have := g.rl; omega) (fun x hx => by have := (g.rg x hx).2.1; omega)
    simp only [runD, nv0, nv1, nv2, nv3, nv4, nv5, nv6, nv7, nv8, nv9, nv10, nv11, nv12, nv13, nv14, nv15, nv16, nv17, nv18, nv19, nv20, nv21, nv22, nv23, nv24, nv25, dvI, dvB, dvS, dvL, Option.bind_some, h2, trD]
theorem r43 (d : DfM) (hb : DfB d) (t : Tm) (hw : Wt t) (hn : t.nodes ≤ 1048577) (f : Int) : rn ⟨43, 0, 0⟩ [.sl (d.so.map sRow), .sl (d.op.map OpM.row), .sl (d.ru.map RuM.row), .sl (d.st.map StM.row), .int t.k, .int t.n, .str t.s, .sl (t.as.map Tm.row), .int f] = some (0, [.sl (trD (runT d t f))]) := by
  have h1 := r97 d hb t hw hn f
  rw [e43_0_0, h1, runT_if]
  cases hc : (cfg d t && (decide (0 ≤ f) && decide (f ≤ 200))) with
  | false => rfl
  | true =>
    simp only [Bool.and_eq_true, decide_eq_true_eq] at hc
    have h2 := r98 d hb t hw f hc.2.1 hc.2.2 hc.1
    simp only [nv0, nv1, nv2, nv3, nv4, nv5, nv6, nv7, nv8, nv9, nv10, nv11, nv12, nv13, nv14, nv15, nv16, nv17, nv18, nv19, nv20, nv21, nv22, nv23, nv24, nv25, dvI, dvB, dvS, dvL, Option.bind_some, Bool.not_true, cond_false, cond_true, h2, allD, trD]
end Go.Q.S
