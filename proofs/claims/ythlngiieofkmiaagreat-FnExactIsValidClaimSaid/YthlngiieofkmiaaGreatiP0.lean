/- The functions of this seat, as that machine runs them. -/
import Derived.Test.YthlngiieofkmiaaGreatiP1
import Derived.Test.YthlngiieofkmiaaGreatM9
set_option linter.unusedVariables false
set_option linter.unusedSimpArgs false
namespace Go.Q.S
open Go Go.Q Go.Proofs
theorem r255 (t : Tm) : rn ⟨255, 0, 0⟩ [.int t.k, .int t.n, .str t.s, .sl (t.as.map Tm.row)] = some (0, [.bool (isW t)]) := by
  show rn _ _ = _
  rw [e255_0_0]
  simp only [List.length_map]
  unfold isW
  have e : decide ((t.as.length : Int) = 0) = decide (t.as.length = 0) := by simp
  rw [e]
  cases decide (t.k = 3) <;> cases decide (0 ≤ t.n) <;> cases decide (t.n < 4) <;> cases decide (t.s = ⟨#[]⟩) <;> cases decide (t.as.length = 0) <;> rfl
theorem r134 (a b c : Int) : rn ⟨134, 0, 0⟩ [.int a, .int b, .int c] = some (0, [.bool (decide (b ≤ a) && decide (a ≤ c))]) := by
  show rn _ _ = _
  rw [e134_0_0]
  cases decide (b ≤ a) <;> rfl
theorem r221 (s : ByteArray) : rn ⟨221, 0, 0⟩ [.str s] = some (0, [.bool (isB s)]) := by
  show rn _ _ = _
  rw [e221_0_0]
  unfold isB plusS minusS timesS
  cases decide (s = (⟨#[112, 108, 117, 115]⟩ : ByteArray)) <;> cases decide (s = (⟨#[109, 105, 110, 117, 115]⟩ : ByteArray)) <;> cases decide (s = (⟨#[116, 105, 109, 101, 115]⟩ : ByteArray)) <;> rfl
theorem r217 (s : ByteArray) : rn ⟨217, 0, 0⟩ [.str s] = some (0, [.bool (isB s)]) := by
  show rn _ _ = _
  rw [e217_0_0]
  unfold isB plusS minusS timesS
  cases decide (s = (⟨#[112, 108, 117, 115]⟩ : ByteArray)) <;> cases decide (s = (⟨#[109, 105, 110, 117, 115]⟩ : ByteArray)) <;> cases decide (s = (⟨#[116, 105, 109, 101, 115]⟩ : ByteArray)) <;> rfl
theorem r229 : ∀ t : Tm, t.nodes ≤ 1048577 → rn ⟨229, 0, 0⟩ [.int t.k, .int t.n, .str t.s, .sl (t.as.map Tm.row)] = some (0, [.sl (t.names.map sRow)]) := Tm.ind fun t ih h => by
  have hnd := Tm.nodes_eq t
  have hsm := names_sum t
  have hlt := len_sum (xs := t.as)
  show rn _ _ = _
  rw [e229_0_0]
  have hf := fun a0 : Rows => fun ha0 : a0.length ≤ 1 => cat_loop (F := fun i acc => rn ⟨229, 0, 1⟩ [.sl (t.as.map Tm.row), .int (t.as.map Tm.row).length, .int (i : Int), .sl acc]) (xs := t.as) (fun a => a.names.map sRow) a0 (K := fun acc => some (0, [.sl acc])) (fun i hi acc ha => by
    have hc := ih _ (List.getElem_mem hi) (by have := mem_sum (f := Tm.nodes) (List.getElem_mem hi); omega)
    rw [e229_0_1]
    simp only [Int.toNat_natCast, rowAt_map hi, Tm.row_eq, List.length_map, inbN, hi, Int.ofNat_lt, decide_true, cond_true, nth, List.getD_cons_zero, List.getD_cons_succ, D.I, D.S, D.L, D.B, wrap_succ hi (by unfold maxLen; omega), Option.bind_some, hc]
    rw [List.length_append, List.length_map] at ha
    rw [show Nat.ble (acc.length + t.as[i].names.length) M63 = true from Nat.ble_eq_true_of_le (by unfold M63; omega)]
    rfl) (fun acc => by
    rw [e229_0_1]
    simp)
  simp only [Int.natCast_zero] at hf
  rw [names_rows]
  by_cases hk : t.k = 1
  · rw [if_pos hk, decide_eq_true hk]
    have h1 := hf [sRow t.s] (by simp)
    simp only [sRow] at h1
    simp only [cond_true, sRow]
    rw [h1]; rfl
  · rw [if_neg hk, decide_eq_false hk]
    have h1 := hf [] (by simp)
    simp only [cond_false]
    rw [h1]; rfl
theorem r216 : ∀ t : Tm, ∀ a0 : Rows, t.nodes ≤ 1048577 → a0.length + t.names.length ≤ 1073741824 → rn ⟨216, 1, 0⟩ [.int t.k, .int t.n, .str t.s, .sl (t.as.map Tm.row), .sl a0] = some (0, [.sl (a0 ++ t.names.map sRow)]) := Tm.ind fun t ih a0 h h' => by
  have hnd := Tm.nodes_eq t
  have hsm := names_sum t
  have hlt := len_sum (xs := t.as)
  show rn _ _ = _
  rw [e216_1_0]
  have hf := fun a1 : Rows => fun ha1 : a1.length + (t.as.flatMap fun a => a.names.map sRow).length ≤ 1073741824 => cat_loop (F := fun i acc => rn ⟨216, 1, 1⟩ [.int (i : Int), .sl acc, .int t.k, .int t.n, .str t.s, .sl (t.as.map Tm.row)]) (xs := t.as) (fun a => a.names.map sRow) a1 (K := fun acc => some (0, [.sl acc])) (fun i hi acc ha => by
    rw [List.length_append] at ha
    have hx : t.as[i].nodes ≤ (t.as.map Tm.nodes).sum := mem_sum (f := Tm.nodes) (List.getElem_mem hi)
    have hc := ih _ (List.getElem_mem hi) acc (by omega) (by rw [List.length_map] at ha; omega)
    rw [e216_1_1]
    simp only [Int.toNat_natCast, rowAt_map hi, Tm.row_eq, List.length_map, inbN, hi, Int.ofNat_lt, decide_true, cond_true, nth, List.getD_cons_zero, List.getD_cons_succ, D.I, D.S, D.L, D.B, wrap_succ hi (by unfold maxLen; omega), Option.bind_some, hc]) (fun acc => by
    rw [e216_1_1]
    simp)
  simp only [Int.natCast_zero] at hf
  have hle : t.names.length = (if t.k = 1 then [sRow t.s] else []).length + (t.as.flatMap fun a => a.names.map sRow).length := by
    rw [← List.length_append, ← names_rows, List.length_map]
  rw [names_rows]
  by_cases hk : t.k = 1
  · rw [if_pos hk] at hle
    rw [if_pos hk, decide_eq_true hk]
    have h1 := hf (a0 ++ [sRow t.s]) (by rw [List.length_append]; omega)
    simp only [sRow] at h1
    simp only [cond_true, sRow, List.length_cons, List.length_nil]
    rw [show Nat.ble (a0.length + (0 + 1)) M63 = true from Nat.ble_eq_true_of_le (by unfold M63; omega)]
    simp only [cond_true]
    rw [h1, List.append_assoc]; rfl
  · rw [if_neg hk] at hle
    rw [if_neg hk, decide_eq_false hk]
    have h1 := hf a0 (by rw [List.length_nil] at hle; omega)
    simp only [cond_false]
    rw [h1]; rfl
end Go.Q.S
