/- The functions of this seat, as that machine runs them. -/
import Derived.Test.YtboolhhmagjadaabT
import Derived.Test.YtboolhhmagjadaaM2
set_option linter.unusedVariables false
set_option linter.unusedSimpArgs false
namespace Go.Q.S
open Go Go.Q Go.Proofs
theorem r16 (n : Nat) : rn ⟨16, 0, 0⟩ [.int (n : Int)] = some (0, [.int (cnt4 n)]) := by
  show rn _ _ = _
  rw [e16_0_0]
  have hn : ¬ ((n : Int) < 0) := by omega
  simp only [decide_eq_false hn, cond_false]
  have st : ∀ x a : Int, 0 < x → rn ⟨16, 0, 1⟩ [.int x, .int a] = rn ⟨16, 0, 1⟩ [.int (IntKind.i64.wrap (x - 1)), .int (IntKind.i64.wrap (a * 4))] := fun x a h => by
    rw [e16_0_1]
    rw [decide_eq_true h]; rfl
  have fi : ∀ a : Int, rn ⟨16, 0, 1⟩ [.int 0, .int a] = some (0, [.int a]) := fun a => by
    rw [e16_0_1]
    rfl
  by_cases h3 : 3 < n
  · rw [cnt4_big h3, decide_eq_true (by omega : (3 : Int) < (n : Int))]; rfl
  · rw [decide_eq_false (by omega : ¬ (3 : Int) < (n : Int))]
    simp only [cond_false]
    obtain rfl | rfl | rfl | rfl : n = 0 ∨ n = 1 ∨ n = 2 ∨ n = 3 := by omega
    · show (rn ⟨16, 0, 1⟩ [.int 0, .int 1]).bind _ = _
      rw [fi]; rfl
    · show (rn ⟨16, 0, 1⟩ [.int 1, .int 1]).bind _ = _
      rw [st 1 1 (by decide)]
      show (rn ⟨16, 0, 1⟩ [.int 0, .int 4]).bind _ = _
      rw [fi]; rfl
    · show (rn ⟨16, 0, 1⟩ [.int 2, .int 1]).bind _ = _
      rw [st 2 1 (by decide)]
      show (rn ⟨16, 0, 1⟩ [.int 1, .int 4]).bind _ = _
      rw [st 1 4 (by decide)]
      show (rn ⟨16, 0, 1⟩ [.int 0, .int 16]).bind _ = _
      rw [fi]; rfl
    · show (rn ⟨16, 0, 1⟩ [.int 3, .int 1]).bind _ = _
      rw [st 3 1 (by decide)]
      show (rn ⟨16, 0, 1⟩ [.int 2, .int 4]).bind _ = _
      rw [st 2 4 (by decide)]
      show (rn ⟨16, 0, 1⟩ [.int 1, .int 16]).bind _ = _
      rw [st 1 16 (by decide)]
      show (rn ⟨16, 0, 1⟩ [.int 0, .int 64]).bind _ = _
      rw [fi]; rfl
theorem r17 (n : Nat) : rn ⟨17, 0, 0⟩ [.int (n : Int)] = some (0, [.int (cnt4 n)]) := by
  show rn _ _ = _
  rw [e17_0_0]
  have hi := r84 (n : Int) 0 3
  skip
  simp only [hi, Option.bind_some, nth, List.getD_cons_zero, List.getD_cons_succ, D.I, D.S, D.L, D.B]
  rw [decide_eq_true (by omega : (0 : Int) ≤ (n : Int)), Bool.true_and]
  have st : ∀ x a i : Int, i < x → rn ⟨17, 0, 1⟩ [.int x, .int a, .int i] = rn ⟨17, 0, 1⟩ [.int x, .int (IntKind.i64.wrap (a * 4)), .int (IntKind.i64.wrap (i + 1))] := fun x a i h => by
    rw [e17_0_1]
    rw [decide_eq_true h]; rfl
  have fi : ∀ x a : Int, rn ⟨17, 0, 1⟩ [.int x, .int a, .int x] = some (0, [.int a]) := fun x a => by
    rw [e17_0_1]
    rw [decide_eq_false (by omega)]; rfl
  by_cases h3 : 3 < n
  · rw [cnt4_big h3, decide_eq_false (by omega : ¬ (n : Int) ≤ (3 : Int))]; rfl
  · rw [decide_eq_true (by omega : (n : Int) ≤ (3 : Int))]
    simp only [Bool.not_true, cond_false]
    obtain rfl | rfl | rfl | rfl : n = 0 ∨ n = 1 ∨ n = 2 ∨ n = 3 := by omega
    · show (rn ⟨17, 0, 1⟩ [.int 0, .int 1, .int 0]).bind _ = _
      rw [fi]; rfl
    · show (rn ⟨17, 0, 1⟩ [.int 1, .int 1, .int 0]).bind _ = _
      rw [st 1 1 0 (by decide)]
      show (rn ⟨17, 0, 1⟩ [.int 1, .int 4, .int 1]).bind _ = _
      rw [fi]; rfl
    · show (rn ⟨17, 0, 1⟩ [.int 2, .int 1, .int 0]).bind _ = _
      rw [st 2 1 0 (by decide)]
      show (rn ⟨17, 0, 1⟩ [.int 2, .int 4, .int 1]).bind _ = _
      rw [st 2 4 1 (by decide)]
      show (rn ⟨17, 0, 1⟩ [.int 2, .int 16, .int 2]).bind _ = _
      rw [fi]; rfl
    · show (rn ⟨17, 0, 1⟩ [.int 3, .int 1, .int 0]).bind _ = _
      rw [st 3 1 0 (by decide)]
      show (rn ⟨17, 0, 1⟩ [.int 3, .int 4, .int 1]).bind _ = _
      rw [st 3 4 1 (by decide)]
      show (rn ⟨17, 0, 1⟩ [.int 3, .int 16, .int 2]).bind _ = _
      rw [st 3 16 2 (by decide)]
      show (rn ⟨17, 0, 1⟩ [.int 3, .int 64, .int 3]).bind _ = _
      rw [fi]; rfl
theorem wcnt (n : Nat) (c : Int) : (decide (0 ≤ c) && decide (c ≤ IntKind.i64.wrap (cnt4 n - 1))) = isC n c := by
  have h := cnt4_le n
  rw [IntWalk.i64_in _ (by omega)]
  unfold isC
  have : decide (c ≤ cnt4 n - 1) = decide (c < cnt4 n) := decide_eq_decide.2 (by omega)
  rw [this]
theorem r82 (n : Nat) (c : Int) : rn ⟨82, 0, 0⟩ [.int (n : Int), .int c] = some (0, [.bool (isC n c)]) := by
  show rn _ _ = _
  rw [e82_0_0]
  have hc := r16 n
  skip
  simp only [hc, Option.bind_some, nth, List.getD_cons_zero, List.getD_cons_succ, D.I, D.S, D.L, D.B]
  unfold isC
  cases decide (0 ≤ c) <;> rfl
theorem rv0 (a b c : Int) : rn ⟨83, 1, 0⟩ [.sl []] = some (0, [.sl []]) := by
  show rn _ _ = _
  rw [e83_1_0]
  show (rn ⟨83, 1, 1⟩ [.int 0, .int (-1), .sl []]).bind _ = _
  rw [e83_1_1]
  rfl
theorem rv1 (a b c : Int) : rn ⟨83, 1, 0⟩ [.sl [[D.int a]]] = some (0, [.sl [[D.int a]]]) := by
  show rn _ _ = _
  rw [e83_1_0]
  show (rn ⟨83, 1, 1⟩ [.int 0, .int (0), .sl [[D.int a]]]).bind _ = _
  rw [e83_1_1]
  rfl
theorem rv2 (a b c : Int) : rn ⟨83, 1, 0⟩ [.sl [[D.int a], [D.int b]]] = some (0, [.sl [[D.int b], [D.int a]]]) := by
  show rn _ _ = _
  rw [e83_1_0]
  show (rn ⟨83, 1, 1⟩ [.int 0, .int (1), .sl [[D.int a], [D.int b]]]).bind _ = _
  rw [e83_1_1]
  show (rn ⟨83, 1, 1⟩ [.int 1, .int 0, .sl [[D.int b], [D.int a]]]).bind _ = _
  rw [e83_1_1]
  rfl
theorem rv3 (a b c : Int) : rn ⟨83, 1, 0⟩ [.sl [[D.int a], [D.int b], [D.int c]]] = some (0, [.sl [[D.int c], [D.int b], [D.int a]]]) := by
  show rn _ _ = _
  rw [e83_1_0]
  show (rn ⟨83, 1, 1⟩ [.int 0, .int (2), .sl [[D.int a], [D.int b], [D.int c]]]).bind _ = _
  rw [e83_1_1]
  show (rn ⟨83, 1, 1⟩ [.int 1, .int 1, .sl [[D.int c], [D.int b], [D.int a]]]).bind _ = _
  rw [e83_1_1]
  rfl
theorem r13 (n : Nat) (c : Int) : rn ⟨13, 0, 0⟩ [.int (n : Int), .int c] = some (0, [.sl ((vals n c).map iRow)]) := by
  show rn _ _ = _
  rw [e13_0_0]
  have hi := r82 n c
  skip
  simp only [hi, Option.bind_some, nth, List.getD_cons_zero, List.getD_cons_succ, D.I, D.S, D.L, D.B]
  unfold vals
  cases hq : isC n c with
  | false => rfl
  | true =>
    obtain ⟨hn, h0, h64⟩ := isC_le hq
    have e1 : c.tdiv 4 = c / 4 := Int.tdiv_eq_ediv_of_nonneg h0
    have w1 : IntKind.i64.wrap (c.tdiv 4) = c.tdiv 4 := by rw [e1]; exact IntWalk.i64_in _ (by omega)
    have h1 : 0 ≤ c.tdiv 4 := by rw [e1]; omega
    have e2 : (c.tdiv 4).tdiv 4 = c / 4 / 4 := by rw [Int.tdiv_eq_ediv_of_nonneg h1, e1]
    have w2 : IntKind.i64.wrap ((c.tdiv 4).tdiv 4) = (c.tdiv 4).tdiv 4 := by rw [e2]; exact IntWalk.i64_in _ (by omega)
    have st : ∀ (x a : Int) (acc : Rows), 0 < x → acc.length ≤ 10 → rn ⟨13, 0, 1⟩ [.int x, .int a, .sl acc] = rn ⟨13, 0, 1⟩ [.int (IntKind.i64.wrap (x - 1)), .int (IntKind.i64.wrap (a.tdiv 4)), .sl (acc ++ [[.int (a.tmod 4)]])] := fun x a acc h hl => by
      rw [e13_0_1]
      rw [decide_eq_true h]
      simp only [List.length_cons, List.length_nil]
      rw [show Nat.ble (acc.length + (0 + 1)) M63 = true from Nat.ble_eq_true_of_le (by unfold M63; omega)]
      rfl
    have fi : ∀ (a : Int) (acc : Rows), rn ⟨13, 0, 1⟩ [.int 0, .int a, .sl acc] = some (0, [.sl acc]) := fun a acc => by
      rw [e13_0_1]
      rfl
    simp only [Bool.not_true, cond_false, if_true]
    obtain rfl | rfl | rfl | rfl : n = 0 ∨ n = 1 ∨ n = 2 ∨ n = 3 := by omega
    · show (rn ⟨13, 0, 1⟩ [.int 0, .int c, .sl []]).bind _ = _
      rw [fi]
      have hv := rv0 0 0 0
      skip
      show ((rn ⟨83, 1, 0⟩ [.sl []]).bind _ : R) = _
      rw [hv]; rfl
    · show (rn ⟨13, 0, 1⟩ [.int 1, .int c, .sl []]).bind _ = _
      rw [st 1 c [] (by decide) (by decide)]
      rw [w1]
      show (rn ⟨13, 0, 1⟩ [.int 0, .int (c.tdiv 4), .sl [[.int (c.tmod 4)]]]).bind _ = _
      rw [fi]
      have hv := rv1 (c.tmod 4) 0 0
      skip
      show ((rn ⟨83, 1, 0⟩ [.sl [[.int (c.tmod 4)]]]).bind _ : R) = _
      rw [hv]; rfl
    · show (rn ⟨13, 0, 1⟩ [.int 2, .int c, .sl []]).bind _ = _
      rw [st 2 c [] (by decide) (by decide), w1]
      show (rn ⟨13, 0, 1⟩ [.int 1, .int (c.tdiv 4), .sl [[.int (c.tmod 4)]]]).bind _ = _
      rw [st 1 _ _ (by decide) (by simp), w2]
      show (rn ⟨13, 0, 1⟩ [.int 0, .int ((c.tdiv 4).tdiv 4), .sl [[.int (c.tmod 4)], [.int ((c.tdiv 4).tmod 4)]]]).bind _ = _
      rw [fi]
      have hv := rv2 (c.tmod 4) ((c.tdiv 4).tmod 4) 0
      skip
      show ((rn ⟨83, 1, 0⟩ [.sl [[.int (c.tmod 4)], [.int ((c.tdiv 4).tmod 4)]]]).bind _ : R) = _
      rw [hv]; rfl
    · show (rn ⟨13, 0, 1⟩ [.int 3, .int c, .sl []]).bind _ = _
      rw [st 3 c [] (by decide) (by decide), w1]
      show (rn ⟨13, 0, 1⟩ [.int 2, .int (c.tdiv 4), .sl [[.int (c.tmod 4)]]]).bind _ = _
      rw [st 2 _ _ (by decide) (by simp), w2]
      show (rn ⟨13, 0, 1⟩ [.int 1, .int ((c.tdiv 4).tdiv 4), .sl [[.int (c.tmod 4)], [.int ((c.tdiv 4).tmod 4)]]]).bind _ = _
      rw [st 1 _ _ (by decide) (by simp)]
      show (rn ⟨13, 0, 1⟩ [.int 0, .int _, .sl [[.int (c.tmod 4)], [.int ((c.tdiv 4).tmod 4)], [.int (((c.tdiv 4).tdiv 4).tmod 4)]]]).bind _ = _
      rw [fi]
      have hv := rv3 (c.tmod 4) ((c.tdiv 4).tmod 4) (((c.tdiv 4).tdiv 4).tmod 4)
      skip
      show ((rn ⟨83, 1, 0⟩ [.sl [[.int (c.tmod 4)], [.int ((c.tdiv 4).tmod 4)], [.int (((c.tdiv 4).tdiv 4).tmod 4)]]]).bind _ : R) = _
      rw [hv]; rfl
theorem r15 (n : Nat) (c : Int) : rn ⟨15, 0, 0⟩ [.int (n : Int), .int c] = some (0, [.sl ((vals n c).map iRow)]) := by
  show rn _ _ = _
  rw [e15_0_0]
  have hi := r17 n
  skip
  have hj := r84 c 0 (IntKind.i64.wrap (cnt4 n - 1))
  rw [wcnt] at hj
  skip
  simp only [hi, hj, Option.bind_some, nth, List.getD_cons_zero, List.getD_cons_succ, D.I, D.S, D.L, D.B]
  unfold vals
  cases hq : isC n c with
  | false => rfl
  | true =>
    obtain ⟨hn, h0, h64⟩ := isC_le hq
    have e1 : c.tdiv 4 = c / 4 := Int.tdiv_eq_ediv_of_nonneg h0
    have w1 : IntKind.i64.wrap (c.tdiv 4) = c.tdiv 4 := by rw [e1]; exact IntWalk.i64_in _ (by omega)
    have h1 : 0 ≤ c.tdiv 4 := by rw [e1]; omega
    have e2 : (c.tdiv 4).tdiv 4 = c / 4 / 4 := by rw [Int.tdiv_eq_ediv_of_nonneg h1, e1]
    have w2 : IntKind.i64.wrap ((c.tdiv 4).tdiv 4) = (c.tdiv 4).tdiv 4 := by rw [e2]; exact IntWalk.i64_in _ (by omega)
    have fi : ∀ (a : Int) (acc : Rows), rn ⟨15, 0, 1⟩ [.int a, .int (-1), .sl acc] = some (0, [.sl acc]) := fun a acc => by
      rw [e15_0_1]
      rfl
    simp only [Bool.not_true, cond_false, if_true]
    obtain rfl | rfl | rfl | rfl : n = 0 ∨ n = 1 ∨ n = 2 ∨ n = 3 := by omega
    · show (rn ⟨15, 0, 1⟩ [.int c, .int (-1), .sl []]).bind _ = _
      rw [fi]; rfl
    · show (rn ⟨15, 0, 1⟩ [.int c, .int 0, .sl [[.int 0]]]).bind _ = _
      rw [e15_0_1]
      show (rn ⟨15, 0, 1⟩ [.int (IntKind.i64.wrap (c.tdiv 4)), .int (-1), .sl [[.int (c.tmod 4)]]]).bind _ = _
      rw [fi]; rfl
    · show (rn ⟨15, 0, 1⟩ [.int c, .int 1, .sl [[.int 0], [.int 0]]]).bind _ = _
      rw [e15_0_1]
      show (rn ⟨15, 0, 1⟩ [.int (IntKind.i64.wrap (c.tdiv 4)), .int 0, .sl [[.int 0], [.int (c.tmod 4)]]]).bind _ = _
      rw [w1]
      rw [e15_0_1]
      show (rn ⟨15, 0, 1⟩ [.int (IntKind.i64.wrap ((c.tdiv 4).tdiv 4)), .int (-1), .sl [[.int ((c.tdiv 4).tmod 4)], [.int (c.tmod 4)]]]).bind _ = _
      rw [fi]; rfl
    · show (rn ⟨15, 0, 1⟩ [.int c, .int 2, .sl [[.int 0], [.int 0], [.int 0]]]).bind _ = _
      rw [e15_0_1]
      show (rn ⟨15, 0, 1⟩ [.int (IntKind.i64.wrap (c.tdiv 4)), .int 1, .sl [[.int 0], [.int 0], [.int (c.tmod 4)]]]).bind _ = _
      rw [w1]
      rw [e15_0_1]
      show (rn ⟨15, 0, 1⟩ [.int (IntKind.i64.wrap ((c.tdiv 4).tdiv 4)), .int 0, .sl [[.int 0], [.int ((c.tdiv 4).tmod 4)], [.int (c.tmod 4)]]]).bind _ = _
      rw [w2]
      rw [e15_0_1]
      show (rn ⟨15, 0, 1⟩ [.int _, .int (-1), .sl [[.int (((c.tdiv 4).tdiv 4).tmod 4)], [.int ((c.tdiv 4).tmod 4)], [.int (c.tmod 4)]]]).bind _ = _
      rw [fi]; rfl
theorem r24 (vars : List ByteArray) (c : Int) : rn ⟨24, 0, 0⟩ [.sl (vars.map sRow), .int c] = some (0, [.sl ((caseS vars c).map Bnd.row)]) := by
  show rn _ _ = _
  rw [e24_0_0]
  have hv := r13 vars.length c
  skip
  have hle := vals_len vars.length c
  have hle3 : (vals vars.length c).length ≤ 3 := by
    by_cases hC : isC vars.length c = true
    · have := (isC_le hC).1; omega
    · unfold vals; rw [if_neg hC]; simp
  have hz : (vars.zip (vals vars.length c)).length = (vals vars.length c).length := by simp; omega
  have hf := map_loop (F := fun i acc => rn ⟨24, 0, 1⟩ [.sl (vars.map sRow), .int (((vals vars.length c).map iRow).length), .int (i : Int), .sl acc, .sl ((vals vars.length c).map iRow)]) (xs := vars.zip (vals vars.length c)) (fun p => [.str p.1, .int 3, .int p.2, .str ⟨#[]⟩, .sl []]) (K := fun acc => some (0, [.sl (acc)])) (fun i hi acc ha => ?_) (fun acc => ?_)
  · simp only [Int.natCast_zero] at hf
    simp only [List.length_map]
    rw [hv]
    simp only [Option.bind_some, nth, List.getD_cons_zero, List.getD_cons_succ, D.I, D.S, D.L, D.B]
    first
      | rw [hf]
      | (simp only [List.length_map] at hf ⊢; rw [hf])
    simp only [Option.bind_some, Nat.beq_refl, cond_true, nth, List.getD_cons_zero, List.getD_cons_succ, D.I, D.S, D.L, D.B]
    unfold caseS
    rw [List.map_map]
    rfl
  · have hi1 : i < vars.length := by rw [List.length_zip] at hi; omega
    have hi2 : i < (vals vars.length c).length := by rw [List.length_zip] at hi; omega
    skip
    rw [e24_0_1]
    simp only [Int.toNat_natCast, rowAt_map hi1, rowAt_map hi2, sRow, iRow, List.length_map, inbN, hi1, hi2, Int.ofNat_lt, decide_true, cond_true, nth, List.getD_cons_zero, List.getD_cons_succ, D.I, D.S, D.L, D.B, wrap_succ hi2 (by unfold maxLen; omega), List.length_cons, List.length_nil, Option.bind_some]
    rw [show Nat.ble (acc.length + (0 + 1)) M63 = true from Nat.ble_eq_true_of_le (by unfold M63; omega)]
    rw [List.getElem_zip]
    rfl
  · skip
    rw [e24_0_1]
    simp [hz]
theorem r25 (vars : List ByteArray) (c : Int) : rn ⟨25, 0, 0⟩ [.sl (vars.map sRow), .int c] = some (0, [.sl ((caseS vars c).map Bnd.row)]) := by
  show rn _ _ = _
  rw [e25_0_0]
  have hv := r15 vars.length c
  skip
  have hle := vals_len vars.length c
  have hle3 : (vals vars.length c).length ≤ 3 := by
    by_cases hC : isC vars.length c = true
    · have := (isC_le hC).1; omega
    · unfold vals; rw [if_neg hC]; simp
  have hz : (vars.zip (vals vars.length c)).length = (vals vars.length c).length := by simp; omega
  have hf := map_loop (F := fun i acc => rn ⟨25, 0, 1⟩ [.sl (vars.map sRow), .int (i : Int), .sl acc, .sl ((vals vars.length c).map iRow)]) (xs := vars.zip (vals vars.length c)) (fun p => [.str p.1, .int 3, .int p.2, .str ⟨#[]⟩, .sl []]) (K := fun acc => some (0, [.sl (acc)])) (fun i hi acc ha => ?_) (fun acc => ?_)
  · simp only [Int.natCast_zero] at hf
    simp only [List.length_map]
    rw [hv]
    simp only [Option.bind_some, nth, List.getD_cons_zero, List.getD_cons_succ, D.I, D.S, D.L, D.B]
    first
      | rw [hf]
      | (simp only [List.length_map] at hf ⊢; rw [hf])
    simp only [Option.bind_some, Nat.beq_refl, cond_true, nth, List.getD_cons_zero, List.getD_cons_succ, D.I, D.S, D.L, D.B]
    unfold caseS
    rw [List.map_map]
    rfl
  · have hi1 : i < vars.length := by rw [List.length_zip] at hi; omega
    have hi2 : i < (vals vars.length c).length := by rw [List.length_zip] at hi; omega
    skip
    rw [e25_0_1]
    have hw := r91 ((vals vars.length c)[i])
    skip
    simp only [Int.toNat_natCast, rowAt_map hi1, rowAt_map hi2, sRow, iRow, List.length_map, inbN, hi1, hi2, Int.ofNat_lt, decide_true, cond_true, nth, List.getD_cons_zero, List.getD_cons_succ, D.I, D.S, D.L, D.B, wrap_succ hi2 (by unfold maxLen; omega), List.length_cons, List.length_nil, Option.bind_some, hw]
    rw [show Nat.ble (acc.length + (0 + 1)) M63 = true from Nat.ble_eq_true_of_le (by unfold M63; omega)]
    rw [List.getElem_zip]
    rfl
  · skip
    rw [e25_0_1]
    simp [hz]
theorem r153 (vars : List ByteArray) (t : Tm) (ht : Small t) (c : Int) : rn ⟨153, 0, 0⟩ [.sl (vars.map sRow), .int t.k, .int t.n, .str t.s, .sl (t.as.map Tm.row), .int c] = some (0, [.int (inst vars t c).k, .int (inst vars t c).n, .str (inst vars t c).s, .sl ((inst vars t c).as.map Tm.row)]) := by
  show rn _ _ = _
  rw [e153_0_0]
  have hl : (caseS vars c).length ≤ 1048576 := by
    have := vals_len vars.length c
    by_cases hC : isC vars.length c = true
    · have := (isC_le hC).1; unfold caseS; simp; omega
    · unfold caseS vals; rw [if_neg hC]; simp
  have h1 := r25 vars c
  have h2 := r129 (caseS vars c) hl (caseS_small vars c) t ht
  have h3 := r147 (aS (caseS vars c) t) (aS_small (caseS_small vars c) t ht)
  skip
  simp only [h1, h2, h3, Option.bind_some, nth, List.getD_cons_zero, List.getD_cons_succ, D.I, D.S, D.L, D.B]
  rfl
theorem caseS_len (vars : List ByteArray) (c : Int) : (caseS vars c).length ≤ 1048576 := by
  have := vals_len vars.length c
  by_cases hC : isC vars.length c = true
  · have := (isC_le hC).1; unfold caseS; simp; omega
  · unfold caseS vals; rw [if_neg hC]; simp
end Go.Q.S
