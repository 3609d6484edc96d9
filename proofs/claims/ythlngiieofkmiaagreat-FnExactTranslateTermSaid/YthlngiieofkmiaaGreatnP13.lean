/- The functions of this seat, as that machine runs them. -/
import Derived.Test.YthlngiieofkmiaaGreatnP12
import Derived.Test.YthlngiieofkmiaaGreatM19
set_option linter.unusedVariables false
set_option linter.unusedSimpArgs false
namespace Go.Q.S
open Go Go.Q Go.Proofs
theorem r182 (s : ByteArray) : ∀ t : Tm, t.nodes ≤ 1048577 → rn ⟨182, 0, 0⟩ [.int t.k, .int t.n, .str t.s, .sl (t.as.map Tm.row), .str s] = some (0, [.bool (cO s t)]) := Tm.ind fun t ih h => by
  have hnd := Tm.nodes_eq t
  have hls := len_sum (xs := t.as)
  have hlp : ∀ n i, i + n = t.as.length → (((t.as.drop i).any (cO s)) = false ∧ rn ⟨177, 0, 1⟩ [.sl (t.as.map Tm.row), .int (t.as.length : Int), .int (i : Int), .str s] = some (0, [.str s])) ∨ (((t.as.drop i).any (cO s)) = true ∧ ∃ j : Nat, rn ⟨177, 0, 1⟩ [.sl (t.as.map Tm.row), .int (t.as.length : Int), .int (i : Int), .str s] = some (1, [.int (j : Int), .str s])) := by
    intro n
    induction n with
    | zero =>
      intro i hi
      obtain rfl : i = t.as.length := by omega
      rw [e177_0_1]
      simp only [List.length_map, Int.ofNat_lt, Nat.lt_irrefl, decide_false, cond_false, List.drop_length]
      exact .inl ⟨rfl, trivial⟩
    | succ n ih2 =>
      intro i hi
      have hlt : i < t.as.length := by omega
      have hm := List.getElem_mem hlt
      have he := ih _ hm (by have := mem_sum (f := Tm.nodes) hm; omega)
      have := ih2 (i + 1) (by omega)
      rw [e177_0_1, List.drop_eq_getElem_cons hlt]
      simp only [List.any_cons]
      generalize ((t.as.drop (i + 1)).any (cO s)) = A at this ⊢
      simp only [List.length_map, Int.ofNat_lt, hlt, decide_true, cond_true, inbN, Int.toNat_natCast, rowAt_map hlt, wrap_succ hlt (maxB (by omega)), Tm.row_eq, nv0, nvS, dvI, dvB, dvS, dvL, Option.bind_some, e243_0_0, he]
      cases cO s t.as[i] with
      | true => exact .inr ⟨rfl, i, by simp⟩
      | false => simpa using this
  have h0 := hlp t.as.length 0 (by omega)
  simp only [List.drop_zero, Int.natCast_zero] at h0
  have hc : rn ⟨102, 0, 0⟩ [.sl (t.as.map Tm.row), .str s] = some (0, [.bool (t.as.any (cO s)), .str s]) := by
    rw [e102_0_0, e177_0_0]
    simp only [List.length_map]
    rcases h0 with ⟨q1, q2⟩ | ⟨q1, j, q2⟩
    · rw [q2, q1]; rfl
    · rw [q2, q1]
      have : (0 : Int) ≤ (j : Int) := by omega
      simp only [nv0, nvS, dvI, dvB, dvS, dvL, Option.bind_some, Nat.beq_refl, cond_true, cond_false, show Nat.beq 1 0 = false from rfl, this, decide_true]
  rw [e182_0_0, cO_eq]
  simp only [hc, nv0, nvS, dvI, dvB, dvS, dvL, Option.bind_some]
  by_cases hk : t.k = 2
  · by_cases hs : t.s = s <;> simp [hk, hs]
  · simp [hk]
theorem r114 (s : ByteArray) : ∀ t : Tm, t.nodes ≤ 1048577 → rn ⟨114, 0, 0⟩ [.int t.k, .int t.n, .str t.s, .sl (t.as.map Tm.row), .str s] = some (0, [.bool (cO s t)]) := Tm.ind fun t ih h => by
  have hnd := Tm.nodes_eq t
  have hls := len_sum (xs := t.as)
  have hlp : ∀ n i, i + n = t.as.length → rn ⟨114, 0, 1⟩ [.str s, .int (i : Int), .int t.k, .int t.n, .str t.s, .sl (t.as.map Tm.row)] = bif (t.as.drop i).any (cO s) then some (1, []) else some (0, [.str s, .int t.k, .int t.n, .str t.s, .sl (t.as.map Tm.row)]) := by
    intro n
    induction n with
    | zero =>
      intro i hi
      obtain rfl : i = t.as.length := by omega
      rw [e114_0_1]
      simp only [List.length_map, Int.ofNat_lt, Nat.lt_irrefl, decide_false, cond_false, List.drop_length, List.any_nil, cond_false]
    | succ n ih2 =>
      intro i hi
      have hlt : i < t.as.length := by omega
      have hm := List.getElem_mem hlt
      have he := ih _ hm (by have := mem_sum (f := Tm.nodes) hm; omega)
      rw [e114_0_1, List.drop_eq_getElem_cons hlt]
      simp only [List.length_map, Int.ofNat_lt, hlt, decide_true, cond_true, inbN, Int.toNat_natCast, rowAt_map hlt, wrap_succ hlt (maxB (by omega)), Tm.row_eq, nv0, nvS, dvI, dvB, dvS, dvL, Option.bind_some, he, List.any_cons, ih2 (i + 1) (by omega)]
      cases cO s t.as[i] <;> simp
  have h0 := hlp t.as.length 0 (by omega)
  simp only [List.drop_zero, Int.natCast_zero] at h0
  rw [e114_0_0, cO_eq, h0]
  cases t.as.any (cO s) with
  | true => rw [Bool.or_true]; rfl
  | false =>
    simp only [cond_false, nv0, nvS, dvI, dvB, dvS, dvL, Option.bind_some, Nat.beq_refl, cond_true, cond_false, Bool.or_false]
    by_cases hk : t.k = 2 <;> simp [hk]
theorem r41 (d : DfM) (hb : DfB d) (t : Tm) (hw : Wt t) (hn : t.nodes ≤ 1048577) (s : ByteArray) (hs : s.size ≤ maxLen) : rn ⟨41, 0, 0⟩ [.sl (d.so.map sRow), .sl (d.op.map OpM.row), .sl (d.ru.map RuM.row), .sl (d.st.map StM.row), .int t.k, .int t.n, .str t.s, .sl (t.as.map Tm.row), .str s] = some (0, trR (trT d t s)) := by
  have h1 := r34 d hb (.mk 2 0 s [t]) (wt_app hw hs) (by rw [Tm.nodes_eq, Tm.as_mk]; simp; omega) 200
  simp only [Tm.k_mk, Tm.n_mk, Tm.s_mk, Tm.as_mk, List.map_cons, List.map_nil, Tm.row_eq] at h1
  rw [e41_0_0, e115_0_0]
  unfold trT
  cases hr : runT d (.mk 2 0 s [t]) 200 with
  | none =>
    rw [hr] at h1
    simp only [h1, rtD, nv0, nvS, dvI, dvB, dvS, dvL, Option.bind_some]; rfl
  | some r =>
    rw [hr] at h1
    obtain ⟨g, _⟩ := runT_good hb (wt_app hw hs) hr
    have h2 := r182 s r.t (by have := g.tn; omega)
    simp only [h1, rtD, nv0, nvS, dvI, dvB, dvS, dvL, Option.bind_some, h2]
    by_cases q : r.o = 1
    · simp only [q, decide_true, Bool.not_true, cond_false, if_true]
      cases cO s r.t <;> rfl
    · simp only [q, decide_false, Bool.not_false, cond_true, if_false]; rfl
theorem r40 (d : DfM) (hb : DfB d) (t : Tm) (hw : Wt t) (hn : t.nodes ≤ 1048577) (s : ByteArray) (hs : s.size ≤ maxLen) : rn ⟨40, 0, 0⟩ [.sl (d.so.map sRow), .sl (d.op.map OpM.row), .sl (d.ru.map RuM.row), .sl (d.st.map StM.row), .int t.k, .int t.n, .str t.s, .sl (t.as.map Tm.row), .str s] = some (0, trR (trT d t s)) := by
  have h1 := r33 d hb (.mk 2 0 s [t]) (wt_app hw hs) (by rw [Tm.nodes_eq, Tm.as_mk]; simp; omega) 200
  simp only [Tm.k_mk, Tm.n_mk, Tm.s_mk, Tm.as_mk, List.map_cons, List.map_nil, Tm.row_eq] at h1
  rw [e40_0_0, e113_0_0, e181_0_0]
  unfold trT
  cases hr : runT d (.mk 2 0 s [t]) 200 with
  | none =>
    rw [hr] at h1
    simp only [nv0, nvS, dvI, dvB, dvS, dvL, Option.bind_some, h1, rtD]; rfl
  | some r =>
    rw [hr] at h1
    obtain ⟨g, _⟩ := runT_good hb (wt_app hw hs) hr
    have h2 := r114 s r.t (by have := g.tn; omega)
    simp only [nv0, nvS, dvI, dvB, dvS, dvL, Option.bind_some, h1, rtD, h2]
    by_cases q : r.o = 1
    · simp only [q, decide_true, Bool.not_true, cond_false, if_true]
      cases cO s r.t <;> rfl
    · simp only [q, decide_false, Bool.not_false, cond_true, if_false]; rfl
end Go.Q.S
