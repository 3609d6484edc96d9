/- The functions of this seat, as that machine runs them. -/
import Derived.Test.YtboolhhmagjadaaGreatzF
set_option linter.unusedVariables false
set_option linter.unusedSimpArgs false
namespace Go.Q.S
open Go Go.Q Go.Proofs
theorem q53 {rs rs' : Rows} (hl : rs.length ≤ maxLen) (hl' : rs'.length ≤ maxLen) (hW : WRs H rs L9) (hW' : WRs H rs' L9) : rn ⟨53, 0, 0⟩ [.sl rs, .sl rs'] = some (0, [.bool (eqb rs rs')]) := by
  show run H Tryz.prog ⟨53, 0, 0⟩ _ = _
  rw [run_eq, g53_0_0_eq, g53_0_0]
  by_cases hll : rs'.length = rs.length
  · have hf := eq_loop (F := fun i => rn ⟨53, 0, 1⟩ [.sl rs, .sl rs', .int (i : Int)]) (A := some (0, [])) (B := some (1, [])) hll (fun i hi => ?_) ?_
    · simp only [rn, Int.natCast_zero] at hf
      rw [decide_eq_true (by omega : (rs.length : Int) = (rs'.length : Int))]
      simp only [Bool.not_true, cond_false]
      rw [hf]
      cases eqb rs rs' <;> rfl
    · have hi2 : i < rs'.length := by omega
      have hw := WRs_mem hW (List.getElem_mem hi)
      have hw' := WRs_mem hW' (List.getElem_mem hi2)
      obtain ⟨a0, hr, b0⟩ := wl9 hw
      obtain ⟨y0, hr', by0⟩ := wl9 hw'
      simp only [rn]
      rw [run_eq, g53_0_1_eq, g53_0_1]
      have hx1 : ((i : Int) < (rs.length : Int)) := by omega
      simp only [Int.toNat_natCast, rowAt_eq hi, rowAt_eq hi2, hr, hr', inbN, hi, hi2, hx1, decide_true, cond_true, Int.ofNat_lt, nth, List.getD_cons_zero, List.getD_cons_succ, D.I, D.S, D.L, D.B, wrap_succ hi hl]
      have hq : eqb [D.str a0] [D.str y0] = ((decide (a0 = y0))) := by simp only [eqb_cons, eqb_nil, eqb_int, eqb_str, eqb_bool, eqb_sl, Bool.and_true, Bool.and_assoc]
      rw [hq]
      all_goals (cases (decide (a0 = y0)) <;> rfl)
    · simp only [rn]
      rw [run_eq, g53_0_1_eq, g53_0_1]
      simp
  · rw [decide_eq_false (by omega : ¬ (rs.length : Int) = (rs'.length : Int)), eqb_len (fun h => hll h.symm)]
    rfl
theorem q81 {ds es : List D} (h : WL H ds L38) (h' : WL H es L38) : rn ⟨81, 0, 0⟩ (ds ++ es) = some (0, [.bool (eqb ds es)]) := by
  have h0 := h
  have h0' := h'
  obtain ⟨a0, a1, rfl, b0, c0, b1, c1⟩ := wl38 h
  obtain ⟨y0, y1, rfl, by0, cy0, by1, cy1⟩ := wl38 h'
  show run H Tryz.prog ⟨81, 0, 0⟩ [D.sl a0, D.sl a1, D.sl y0, D.sl y1] = _
  rw [run_eq, g81_0_0_eq, g81_0_0]
  have e0 := q53 b0 by0 c0 cy0
  simp only [rn] at e0
  simp only [e0, Option.bind_some, nth, List.getD_cons_zero, List.getD_cons_succ, D.I, D.S, D.L, D.B]
  have hq : eqb [D.sl a0, D.sl a1] [D.sl y0, D.sl y1] = ((eqb a0 y0) && (eqb a1 y1)) := by simp only [eqb_cons, eqb_nil, eqb_int, eqb_str, eqb_bool, eqb_sl, Bool.and_true, Bool.and_assoc]
  rw [hq]
  by_cases l0n : y1.length ≠ a1.length
  · rw [decide_eq_false (by omega : ¬ (a1.length : Int) = (y1.length : Int)), eqb_len (fun h => l0n h.symm)]
    all_goals (cases (eqb a0 y0) <;> rfl)
  have l0 := Classical.not_not.1 l0n
  rw [decide_eq_true (by omega : (a1.length : Int) = (y1.length : Int))]
  have hf0 := eq_loop (F := fun i => rn ⟨81, 0, 1⟩ [.int (i : Int), .sl a0, .sl a1, .sl y0, .sl y1]) (A := some (0, [])) (B := some (1, [])) l0 (fun i hi => ?_) ?_
  rotate_left
  · have hi2 : i < y1.length := by omega
    have hw := WRs_mem c1 (List.getElem_mem hi)
    have hw' := WRs_mem cy1 (List.getElem_mem hi2)
    obtain ⟨u0, u1, u2, hr, bu0, bu1, cu1, bu2⟩ := wl154 hw
    obtain ⟨v0, v1, v2, hr', bv0, bv1, cv1, bv2⟩ := wl154 hw'
    rw [hr] at hw
    rw [hr'] at hw'
    have e1 := q53 bu1 bv1 cu1 cv1
    simp only [rn] at e1
    simp only [rn]
    rw [run_eq, g81_0_1_eq, g81_0_1]
    simp only [Int.toNat_natCast, rowAt_eq hi, rowAt_eq hi2, hr, hr', inbN, hi, hi2, decide_true, cond_true, Int.ofNat_lt, nth, List.getD_cons_zero, List.getD_cons_succ, D.I, D.S, D.L, D.B, wrap_succ hi b1]
    simp only [e1, Option.bind_some, nth, List.getD_cons_zero, List.getD_cons_succ, D.I, D.S, D.L, D.B]
    have hq2 : eqb [D.str u0, D.sl u1, D.str u2] [D.str v0, D.sl v1, D.str v2] = ((decide (u0 = v0)) && (eqb u1 v1) && (decide (u2 = v2))) := by simp only [eqb_cons, eqb_nil, eqb_int, eqb_str, eqb_bool, eqb_sl, Bool.and_true, Bool.and_assoc]
    rw [hq2]
    all_goals (cases (decide (u0 = v0)) <;> cases (eqb u1 v1) <;> cases (decide (u2 = v2)) <;> rfl)
  · simp only [rn]
    rw [run_eq, g81_0_1_eq, g81_0_1]
    simp
  simp only [rn, Int.natCast_zero] at hf0
  rw [hf0]
  cases hx0 : eqb a1 y1
  · all_goals (cases (eqb a0 y0) <;> cases (eqb a1 y1) <;> rfl)
  all_goals (cases (eqb a0 y0) <;> cases (eqb a1 y1) <;> rfl)
theorem q19 : ∀ (N : Nat) (ds es : List D), SizeOf.sizeOf ds < N → WL H ds L53 → WL H es L53 → rn ⟨19, 0, 0⟩ (ds ++ es) = some (0, [.bool (eqb ds es)])
  | 0, ds, es, hN, _, _ => absurd hN (Nat.not_lt_zero _)
  | N + 1, ds, es, hN, h, h' => by
    have h0 := h
    have h0' := h'
    obtain ⟨a0, a1, a2, a3, rfl, b2, b3, c3⟩ := wl53 h
    obtain ⟨y0, y1, y2, y3, rfl, by2, by3, cy3⟩ := wl53 h'
    show run H Tryz.prog ⟨19, 0, 0⟩ [D.int a0, D.int a1, D.str a2, D.sl a3, D.int y0, D.int y1, D.str y2, D.sl y3] = _
    rw [run_eq, g19_0_0_eq, g19_0_0]
    have hq : eqb [D.int a0, D.int a1, D.str a2, D.sl a3] [D.int y0, D.int y1, D.str y2, D.sl y3] = ((decide (a0 = y0)) && (decide (a1 = y1)) && (decide (a2 = y2)) && (eqb a3 y3)) := by simp only [eqb_cons, eqb_nil, eqb_int, eqb_str, eqb_bool, eqb_sl, Bool.and_true, Bool.and_assoc]
    rw [hq]
    by_cases l0n : y3.length ≠ a3.length
    · rw [decide_eq_false (by omega : ¬ (a3.length : Int) = (y3.length : Int)), eqb_len (fun h => l0n h.symm)]
      all_goals (cases (decide (a0 = y0)) <;> cases (decide (a1 = y1)) <;> cases (decide (a2 = y2)) <;> rfl)
    have l0 := Classical.not_not.1 l0n
    rw [decide_eq_true (by omega : (a3.length : Int) = (y3.length : Int))]
    have hf0 := eq_loop (F := fun i => rn ⟨19, 0, 1⟩ [.int (i : Int), .int a0, .int a1, .str a2, .sl a3, .int y0, .int y1, .str y2, .sl y3]) (A := some (0, [])) (B := some (1, [])) l0 (fun i hi => ?_) ?_
    rotate_left
    · have hi2 : i < y3.length := by omega
      have hw := WRs_mem c3 (List.getElem_mem hi)
      have hw' := WRs_mem cy3 (List.getElem_mem hi2)
      obtain ⟨u0, u1, u2, u3, hr, bu2, bu3, cu3⟩ := wl53 hw
      obtain ⟨v0, v1, v2, v3, hr', bv2, bv3, cv3⟩ := wl53 hw'
      have hs := size_row (List.getElem_mem hi)
      have hc := q19 N _ _ (by simp only [List.cons.sizeOf_spec, D.sl.sizeOf_spec] at hN; omega) hw hw'
      rw [hr, hr'] at hc
      simp only [List.cons_append, List.nil_append] at hc
      simp only [rn] at hc
      simp only [rn]
      rw [run_eq, g19_0_1_eq, g19_0_1]
      simp only [Int.toNat_natCast, rowAt_eq hi, rowAt_eq hi2, hr, hr', inbN, hi, hi2, decide_true, cond_true, Int.ofNat_lt, nth, List.getD_cons_zero, List.getD_cons_succ, D.I, D.S, D.L, D.B, wrap_succ hi b3]
      simp only [hc, Option.bind_some, nth, List.getD_cons_zero, List.getD_cons_succ, D.I, D.S, D.L, D.B]
      cases (eqb [D.int u0, D.int u1, D.str u2, D.sl u3] [D.int v0, D.int v1, D.str v2, D.sl v3]) <;> rfl
    · simp only [rn]
      rw [run_eq, g19_0_1_eq, g19_0_1]
      simp
    simp only [rn, Int.natCast_zero] at hf0
    rw [hf0]
    cases hx0 : eqb a3 y3
    · all_goals (cases (decide (a0 = y0)) <;> cases (decide (a1 = y1)) <;> cases (decide (a2 = y2)) <;> cases (eqb a3 y3) <;> rfl)
    all_goals (cases (decide (a0 = y0)) <;> cases (decide (a1 = y1)) <;> cases (decide (a2 = y2)) <;> cases (eqb a3 y3) <;> rfl)
theorem q142 {ds es : List D} (h : WL H ds L110) (h' : WL H es L110) : rn ⟨142, 0, 0⟩ (ds ++ es) = some (0, [.bool (eqb ds es)]) := by
  have h0 := h
  have h0' := h'
  obtain ⟨a0, a1, a2, a3, a4, a5, a6, a7, a8, rfl, b3, b4, c4, b7, b8, c8⟩ := wl110 h
  obtain ⟨y0, y1, y2, y3, y4, y5, y6, y7, y8, rfl, by3, by4, cy4, by7, by8, cy8⟩ := wl110 h'
  show run H Tryz.prog ⟨142, 0, 0⟩ [D.int a0, D.int a1, D.int a2, D.str a3, D.sl a4, D.int a5, D.int a6, D.str a7, D.sl a8, D.int y0, D.int y1, D.int y2, D.str y3, D.sl y4, D.int y5, D.int y6, D.str y7, D.sl y8] = _
  rw [run_eq, g142_0_0_eq, g142_0_0]
  have w1 : WL H [D.int a1, D.int a2, D.str a3, D.sl a4] L53 := WL.part 1 4 h0
  have w1p : WL H [D.int y1, D.int y2, D.str y3, D.sl y4] L53 := WL.part 1 4 h0'
  have e1 := q19 _ _ _ (Nat.lt_succ_self _) w1 w1p
  simp only [List.cons_append, List.nil_append] at e1
  simp only [rn] at e1
  have w5 : WL H [D.int a5, D.int a6, D.str a7, D.sl a8] L53 := WL.part 5 4 h0
  have w5p : WL H [D.int y5, D.int y6, D.str y7, D.sl y8] L53 := WL.part 5 4 h0'
  have e5 := q19 _ _ _ (Nat.lt_succ_self _) w5 w5p
  simp only [List.cons_append, List.nil_append] at e5
  simp only [rn] at e5
  simp only [e1, e5, Option.bind_some, nth, List.getD_cons_zero, List.getD_cons_succ, D.I, D.S, D.L, D.B]
  have hq : eqb [D.int a0, D.int a1, D.int a2, D.str a3, D.sl a4, D.int a5, D.int a6, D.str a7, D.sl a8] [D.int y0, D.int y1, D.int y2, D.str y3, D.sl y4, D.int y5, D.int y6, D.str y7, D.sl y8] = ((decide (a0 = y0)) && (eqb [D.int a1, D.int a2, D.str a3, D.sl a4] [D.int y1, D.int y2, D.str y3, D.sl y4]) && (eqb [D.int a5, D.int a6, D.str a7, D.sl a8] [D.int y5, D.int y6, D.str y7, D.sl y8])) := by simp only [eqb_cons, eqb_nil, eqb_int, eqb_str, eqb_bool, eqb_sl, Bool.and_true, Bool.and_assoc]
  rw [hq]
  all_goals (cases (decide (a0 = y0)) <;> cases (eqb [D.int a1, D.int a2, D.str a3, D.sl a4] [D.int y1, D.int y2, D.str y3, D.sl y4]) <;> cases (eqb [D.int a5, D.int a6, D.str a7, D.sl a8] [D.int y5, D.int y6, D.str y7, D.sl y8]) <;> rfl)
theorem q82 {rs rs' : Rows} (hl : rs.length ≤ maxLen) (hl' : rs'.length ≤ maxLen) (hW : WRs H rs L110) (hW' : WRs H rs' L110) : rn ⟨82, 0, 0⟩ [.sl rs, .sl rs'] = some (0, [.bool (eqb rs rs')]) := by
  show run H Tryz.prog ⟨82, 0, 0⟩ _ = _
  rw [run_eq, g82_0_0_eq, g82_0_0]
  by_cases hll : rs'.length = rs.length
  · have hf := eq_loop (F := fun i => rn ⟨82, 0, 1⟩ [.sl rs, .sl rs', .int (i : Int)]) (A := some (0, [])) (B := some (1, [])) hll (fun i hi => ?_) ?_
    · simp only [rn, Int.natCast_zero] at hf
      rw [decide_eq_true (by omega : (rs.length : Int) = (rs'.length : Int))]
      simp only [Bool.not_true, cond_false]
      rw [hf]
      cases eqb rs rs' <;> rfl
    · have hi2 : i < rs'.length := by omega
      have hw := WRs_mem hW (List.getElem_mem hi)
      have hw' := WRs_mem hW' (List.getElem_mem hi2)
      obtain ⟨a0, a1, a2, a3, a4, a5, a6, a7, a8, hr, b3, b4, c4, b7, b8, c8⟩ := wl110 hw
      obtain ⟨y0, y1, y2, y3, y4, y5, y6, y7, y8, hr', by3, by4, cy4, by7, by8, cy8⟩ := wl110 hw'
      have hc := q142 hw hw'
      rw [hr, hr'] at hc
      simp only [List.cons_append, List.nil_append] at hc
      simp only [rn] at hc
      simp only [rn]
      rw [run_eq, g82_0_1_eq, g82_0_1]
      have hx1 : ((i : Int) < (rs.length : Int)) := by omega
      simp only [Int.toNat_natCast, rowAt_eq hi, rowAt_eq hi2, hr, hr', inbN, hi, hi2, hx1, decide_true, cond_true, Int.ofNat_lt, nth, List.getD_cons_zero, List.getD_cons_succ, D.I, D.S, D.L, D.B, wrap_succ hi hl]
      simp only [hc, Option.bind_some, nth, List.getD_cons_zero, List.getD_cons_succ, D.I, D.S, D.L, D.B]
      cases (eqb [D.int a0, D.int a1, D.int a2, D.str a3, D.sl a4, D.int a5, D.int a6, D.str a7, D.sl a8] [D.int y0, D.int y1, D.int y2, D.str y3, D.sl y4, D.int y5, D.int y6, D.str y7, D.sl y8]) <;> rfl
    · simp only [rn]
      rw [run_eq, g82_0_1_eq, g82_0_1]
      simp
  · rw [decide_eq_false (by omega : ¬ (rs.length : Int) = (rs'.length : Int)), eqb_len (fun h => hll h.symm)]
    rfl
theorem q34 {ds es : List D} (h : WL H ds L42) (h' : WL H es L42) : rn ⟨34, 0, 0⟩ (ds ++ es) = some (0, [.bool (eqb ds es)]) := by
  have h0 := h
  have h0' := h'
  obtain ⟨a0, a1, a2, a3, rfl, b0, c0, b1, c1, b2, c2, b3, c3⟩ := wl42 h
  obtain ⟨y0, y1, y2, y3, rfl, by0, cy0, by1, cy1, by2, cy2, by3, cy3⟩ := wl42 h'
  show run H Tryz.prog ⟨34, 0, 0⟩ [D.sl a0, D.sl a1, D.sl a2, D.sl a3, D.sl y0, D.sl y1, D.sl y2, D.sl y3] = _
  rw [run_eq, g34_0_0_eq, g34_0_0]
  have w0 : WL H [D.sl a0, D.sl a1] L38 := WL.part 0 2 h0
  have w0p : WL H [D.sl y0, D.sl y1] L38 := WL.part 0 2 h0'
  have e0 := q81 w0 w0p
  simp only [List.cons_append, List.nil_append] at e0
  simp only [rn] at e0
  simp only [e0, Option.bind_some, nth, List.getD_cons_zero, List.getD_cons_succ, D.I, D.S, D.L, D.B]
  have hq : eqb [D.sl a0, D.sl a1, D.sl a2, D.sl a3] [D.sl y0, D.sl y1, D.sl y2, D.sl y3] = ((eqb [D.sl a0, D.sl a1] [D.sl y0, D.sl y1]) && (eqb a2 y2) && (eqb a3 y3)) := by simp only [eqb_cons, eqb_nil, eqb_int, eqb_str, eqb_bool, eqb_sl, Bool.and_true, Bool.and_assoc]
  rw [hq]
  by_cases l0n : y2.length ≠ a2.length
  · rw [decide_eq_false (by omega : ¬ (a2.length : Int) = (y2.length : Int)), eqb_len (fun h => l0n h.symm)]
    all_goals (cases (eqb [D.sl a0, D.sl a1] [D.sl y0, D.sl y1]) <;> cases (eqb a3 y3) <;> rfl)
  have l0 := Classical.not_not.1 l0n
  rw [decide_eq_true (by omega : (a2.length : Int) = (y2.length : Int))]
  by_cases l1n : y3.length ≠ a3.length
  · rw [decide_eq_false (by omega : ¬ (a3.length : Int) = (y3.length : Int)), eqb_len (fun h => l1n h.symm)]
    all_goals (cases (eqb [D.sl a0, D.sl a1] [D.sl y0, D.sl y1]) <;> cases (eqb a2 y2) <;> rfl)
  have l1 := Classical.not_not.1 l1n
  rw [decide_eq_true (by omega : (a3.length : Int) = (y3.length : Int))]
  have hf0 := eq_loop (F := fun i => rn ⟨34, 0, 1⟩ [.int (i : Int), .sl a0, .sl a1, .sl a2, .sl a3, .sl y0, .sl y1, .sl y2, .sl y3]) (A := some (0, [.sl a0, .sl a1, .sl a2, .sl a3, .sl y0, .sl y1, .sl y2, .sl y3])) (B := some (1, [])) l0 (fun i hi => ?_) ?_
  rotate_left
  · have hi2 : i < y2.length := by omega
    have hw := WRs_mem c2 (List.getElem_mem hi)
    have hw' := WRs_mem cy2 (List.getElem_mem hi2)
    obtain ⟨u0, u1, u2, u3, u4, u5, u6, u7, u8, u9, hr, bu0, bu3, bu4, cu4, bu7, bu8, cu8, bu9, cu9⟩ := wl143 hw
    obtain ⟨v0, v1, v2, v3, v4, v5, v6, v7, v8, v9, hr', bv0, bv3, bv4, cv4, bv7, bv8, cv8, bv9, cv9⟩ := wl143 hw'
    rw [hr] at hw
    rw [hr'] at hw'
    have w1 : WL H [D.int u1, D.int u2, D.str u3, D.sl u4] L53 := WL.part 1 4 hw
    have w1p : WL H [D.int v1, D.int v2, D.str v3, D.sl v4] L53 := WL.part 1 4 hw'
    have e1 := q19 _ _ _ (Nat.lt_succ_self _) w1 w1p
    simp only [List.cons_append, List.nil_append] at e1
    simp only [rn] at e1
    have w5 : WL H [D.int u5, D.int u6, D.str u7, D.sl u8] L53 := WL.part 5 4 hw
    have w5p : WL H [D.int v5, D.int v6, D.str v7, D.sl v8] L53 := WL.part 5 4 hw'
    have e5 := q19 _ _ _ (Nat.lt_succ_self _) w5 w5p
    simp only [List.cons_append, List.nil_append] at e5
    simp only [rn] at e5
    have e9 := q82 bu9 bv9 cu9 cv9
    simp only [rn] at e9
    simp only [rn]
    rw [run_eq, g34_0_1_eq, g34_0_1]
    simp only [Int.toNat_natCast, rowAt_eq hi, rowAt_eq hi2, hr, hr', inbN, hi, hi2, decide_true, cond_true, Int.ofNat_lt, nth, List.getD_cons_zero, List.getD_cons_succ, D.I, D.S, D.L, D.B, wrap_succ hi b2]
    simp only [e1, e5, e9, Option.bind_some, nth, List.getD_cons_zero, List.getD_cons_succ, D.I, D.S, D.L, D.B]
    have hq2 : eqb [D.str u0, D.int u1, D.int u2, D.str u3, D.sl u4, D.int u5, D.int u6, D.str u7, D.sl u8, D.sl u9] [D.str v0, D.int v1, D.int v2, D.str v3, D.sl v4, D.int v5, D.int v6, D.str v7, D.sl v8, D.sl v9] = ((decide (u0 = v0)) && (eqb [D.int u1, D.int u2, D.str u3, D.sl u4] [D.int v1, D.int v2, D.str v3, D.sl v4]) && (eqb [D.int u5, D.int u6, D.str u7, D.sl u8] [D.int v5, D.int v6, D.str v7, D.sl v8]) && (eqb u9 v9)) := by simp only [eqb_cons, eqb_nil, eqb_int, eqb_str, eqb_bool, eqb_sl, Bool.and_true, Bool.and_assoc]
    rw [hq2]
    all_goals (cases (decide (u0 = v0)) <;> cases (eqb [D.int u1, D.int u2, D.str u3, D.sl u4] [D.int v1, D.int v2, D.str v3, D.sl v4]) <;> cases (eqb [D.int u5, D.int u6, D.str u7, D.sl u8] [D.int v5, D.int v6, D.str v7, D.sl v8]) <;> cases (eqb u9 v9) <;> rfl)
  · simp only [rn]
    rw [run_eq, g34_0_1_eq, g34_0_1]
    simp
  simp only [rn, Int.natCast_zero] at hf0
  have hf1 := eq_loop (F := fun i => rn ⟨34, 0, 3⟩ [.int (i : Int), .sl a0, .sl a1, .sl a2, .sl a3, .sl y0, .sl y1, .sl y2, .sl y3]) (A := some (0, [])) (B := some (1, [])) l1 (fun i hi => ?_) ?_
  rotate_left
  · have hi2 : i < y3.length := by omega
    have hw := WRs_mem c3 (List.getElem_mem hi)
    have hw' := WRs_mem cy3 (List.getElem_mem hi2)
    obtain ⟨u0, u1, hr, bu0⟩ := wl146 hw
    obtain ⟨v0, v1, hr', bv0⟩ := wl146 hw'
    rw [hr] at hw
    rw [hr'] at hw'
    simp only [rn]
    rw [run_eq, g34_0_3_eq, g34_0_3]
    simp only [Int.toNat_natCast, rowAt_eq hi, rowAt_eq hi2, hr, hr', inbN, hi, hi2, decide_true, cond_true, Int.ofNat_lt, nth, List.getD_cons_zero, List.getD_cons_succ, D.I, D.S, D.L, D.B, wrap_succ hi b3]
    have hq2 : eqb [D.str u0, D.int u1] [D.str v0, D.int v1] = ((decide (u0 = v0)) && (decide (u1 = v1))) := by simp only [eqb_cons, eqb_nil, eqb_int, eqb_str, eqb_bool, eqb_sl, Bool.and_true, Bool.and_assoc]
    rw [hq2]
    all_goals (cases (decide (u0 = v0)) <;> cases (decide (u1 = v1)) <;> rfl)
  · simp only [rn]
    rw [run_eq, g34_0_3_eq, g34_0_3]
    simp
  simp only [rn, Int.natCast_zero] at hf1
  rw [hf0]
  cases hx0 : eqb a2 y2
  · all_goals (cases (eqb [D.sl a0, D.sl a1] [D.sl y0, D.sl y1]) <;> cases (eqb a2 y2) <;> cases (eqb a3 y3) <;> rfl)
  simp only [cond_true, Option.bind_some, Nat.beq_refl, Bool.not_true, cond_false, nth, List.getD_cons_zero, List.getD_cons_succ, D.I, D.S, D.L, D.B]
  rw [hf1]
  cases hx1 : eqb a3 y3
  · all_goals (cases (eqb [D.sl a0, D.sl a1] [D.sl y0, D.sl y1]) <;> cases (eqb a2 y2) <;> cases (eqb a3 y3) <;> rfl)
  all_goals (cases (eqb [D.sl a0, D.sl a1] [D.sl y0, D.sl y1]) <;> cases (eqb a2 y2) <;> cases (eqb a3 y3) <;> rfl)
theorem q83 {ds es : List D} (h : WL H ds L56) (h' : WL H es L56) : rn ⟨83, 0, 0⟩ (ds ++ es) = some (0, [.bool (eqb ds es)]) := by
  have h0 := h
  have h0' := h'
  obtain ⟨a0, a1, a2, a3, a4, a5, a6, a7, a8, a9, rfl, b0, c0, b3, b4, c4, b7, b8, c8, b9, c9⟩ := wl56 h
  obtain ⟨y0, y1, y2, y3, y4, y5, y6, y7, y8, y9, rfl, by0, cy0, by3, by4, cy4, by7, by8, cy8, by9, cy9⟩ := wl56 h'
  show run H Tryz.prog ⟨83, 0, 0⟩ [D.sl a0, D.int a1, D.int a2, D.str a3, D.sl a4, D.int a5, D.int a6, D.str a7, D.sl a8, D.sl a9, D.sl y0, D.int y1, D.int y2, D.str y3, D.sl y4, D.int y5, D.int y6, D.str y7, D.sl y8, D.sl y9] = _
  rw [run_eq, g83_0_0_eq, g83_0_0]
  have e0 := q53 b0 by0 c0 cy0
  simp only [rn] at e0
  have w1 : WL H [D.int a1, D.int a2, D.str a3, D.sl a4] L53 := WL.part 1 4 h0
  have w1p : WL H [D.int y1, D.int y2, D.str y3, D.sl y4] L53 := WL.part 1 4 h0'
  have e1 := q19 _ _ _ (Nat.lt_succ_self _) w1 w1p
  simp only [List.cons_append, List.nil_append] at e1
  simp only [rn] at e1
  have w5 : WL H [D.int a5, D.int a6, D.str a7, D.sl a8] L53 := WL.part 5 4 h0
  have w5p : WL H [D.int y5, D.int y6, D.str y7, D.sl y8] L53 := WL.part 5 4 h0'
  have e5 := q19 _ _ _ (Nat.lt_succ_self _) w5 w5p
  simp only [List.cons_append, List.nil_append] at e5
  simp only [rn] at e5
  have e9 := q82 b9 by9 c9 cy9
  simp only [rn] at e9
  simp only [e0, e1, e5, e9, Option.bind_some, nth, List.getD_cons_zero, List.getD_cons_succ, D.I, D.S, D.L, D.B]
  have hq : eqb [D.sl a0, D.int a1, D.int a2, D.str a3, D.sl a4, D.int a5, D.int a6, D.str a7, D.sl a8, D.sl a9] [D.sl y0, D.int y1, D.int y2, D.str y3, D.sl y4, D.int y5, D.int y6, D.str y7, D.sl y8, D.sl y9] = ((eqb a0 y0) && (eqb [D.int a1, D.int a2, D.str a3, D.sl a4] [D.int y1, D.int y2, D.str y3, D.sl y4]) && (eqb [D.int a5, D.int a6, D.str a7, D.sl a8] [D.int y5, D.int y6, D.str y7, D.sl y8]) && (eqb a9 y9)) := by simp only [eqb_cons, eqb_nil, eqb_int, eqb_str, eqb_bool, eqb_sl, Bool.and_true, Bool.and_assoc]
  rw [hq]
  all_goals (cases (eqb a0 y0) <;> cases (eqb [D.int a1, D.int a2, D.str a3, D.sl a4] [D.int y1, D.int y2, D.str y3, D.sl y4]) <;> cases (eqb [D.int a5, D.int a6, D.str a7, D.sl a8] [D.int y5, D.int y6, D.str y7, D.sl y8]) <;> cases (eqb a9 y9) <;> rfl)
theorem q35 {rs rs' : Rows} (hl : rs.length ≤ maxLen) (hl' : rs'.length ≤ maxLen) (hW : WRs H rs L56) (hW' : WRs H rs' L56) : rn ⟨35, 0, 0⟩ [.sl rs, .sl rs'] = some (0, [.bool (eqb rs rs')]) := by
  show run H Tryz.prog ⟨35, 0, 0⟩ _ = _
  rw [run_eq, g35_0_0_eq, g35_0_0]
  by_cases hll : rs'.length = rs.length
  · have hf := eq_loop (F := fun i => rn ⟨35, 0, 1⟩ [.sl rs, .sl rs', .int (i : Int)]) (A := some (0, [])) (B := some (1, [])) hll (fun i hi => ?_) ?_
    · simp only [rn, Int.natCast_zero] at hf
      rw [decide_eq_true (by omega : (rs.length : Int) = (rs'.length : Int))]
      simp only [Bool.not_true, cond_false]
      rw [hf]
      cases eqb rs rs' <;> rfl
    · have hi2 : i < rs'.length := by omega
      have hw := WRs_mem hW (List.getElem_mem hi)
      have hw' := WRs_mem hW' (List.getElem_mem hi2)
      obtain ⟨a0, a1, a2, a3, a4, a5, a6, a7, a8, a9, hr, b0, c0, b3, b4, c4, b7, b8, c8, b9, c9⟩ := wl56 hw
      obtain ⟨y0, y1, y2, y3, y4, y5, y6, y7, y8, y9, hr', by0, cy0, by3, by4, cy4, by7, by8, cy8, by9, cy9⟩ := wl56 hw'
      have hc := q83 hw hw'
      rw [hr, hr'] at hc
      simp only [List.cons_append, List.nil_append] at hc
      simp only [rn] at hc
      simp only [rn]
      rw [run_eq, g35_0_1_eq, g35_0_1]
      have hx1 : ((i : Int) < (rs.length : Int)) := by omega
      simp only [Int.toNat_natCast, rowAt_eq hi, rowAt_eq hi2, hr, hr', inbN, hi, hi2, hx1, decide_true, cond_true, Int.ofNat_lt, nth, List.getD_cons_zero, List.getD_cons_succ, D.I, D.S, D.L, D.B, wrap_succ hi hl]
      simp only [hc, Option.bind_some, nth, List.getD_cons_zero, List.getD_cons_succ, D.I, D.S, D.L, D.B]
      cases (eqb [D.sl a0, D.int a1, D.int a2, D.str a3, D.sl a4, D.int a5, D.int a6, D.str a7, D.sl a8, D.sl a9] [D.sl y0, D.int y1, D.int y2, D.str y3, D.sl y4, D.int y5, D.int y6, D.str y7, D.sl y8, D.sl y9]) <;> rfl
    · simp only [rn]
      rw [run_eq, g35_0_1_eq, g35_0_1]
      simp
  · rw [decide_eq_false (by omega : ¬ (rs.length : Int) = (rs'.length : Int)), eqb_len (fun h => hll h.symm)]
    rfl
def L88 : List CT := [.int .i64, .sl 97, .int .i64, .int .i64]
theorem ty88 : H.ty 88 = some ⟨true, L88, [(0, 3), (1, 44), (2, 3), (3, 3)]⟩ := by kernel_rfl
theorem wl88 {ds : List D} (h : WL H ds L88) : ∃ a0 a1 a2 a3, ds = [D.int a0, D.sl a1, D.int a2, D.int a3] ∧ a1.length ≤ maxLen ∧ WRs H a1 L97 := by
  unfold L88 at h
  obtain ⟨a0, _, rfl, _, h⟩ := wl_int h
  obtain ⟨a1, _, rfl, b1, c1, h⟩ := wl_sl ty97 h
  obtain ⟨a2, _, rfl, _, h⟩ := wl_int h
  obtain ⟨a3, _, rfl, _, h⟩ := wl_int h
  obtain rfl := wl_nil h
  exact ⟨a0, a1, a2, a3, rfl, b1, c1⟩
theorem q54 {rs rs' : Rows} (hl : rs.length ≤ maxLen) (hl' : rs'.length ≤ maxLen) (hW : WRs H rs L3) (hW' : WRs H rs' L3) : rn ⟨54, 0, 0⟩ [.sl rs, .sl rs'] = some (0, [.bool (eqb rs rs')]) := by
  show run H Tryz.prog ⟨54, 0, 0⟩ _ = _
  rw [run_eq, g54_0_0_eq, g54_0_0]
  by_cases hll : rs'.length = rs.length
  · have hf := eq_loop (F := fun i => rn ⟨54, 0, 1⟩ [.sl rs, .sl rs', .int (i : Int)]) (A := some (0, [])) (B := some (1, [])) hll (fun i hi => ?_) ?_
    · simp only [rn, Int.natCast_zero] at hf
      rw [decide_eq_true (by omega : (rs.length : Int) = (rs'.length : Int))]
      simp only [Bool.not_true, cond_false]
      rw [hf]
      cases eqb rs rs' <;> rfl
    · have hi2 : i < rs'.length := by omega
      have hw := WRs_mem hW (List.getElem_mem hi)
      have hw' := WRs_mem hW' (List.getElem_mem hi2)
      obtain ⟨a0, hr⟩ := wl3 hw
      obtain ⟨y0, hr'⟩ := wl3 hw'
      simp only [rn]
      rw [run_eq, g54_0_1_eq, g54_0_1]
      have hx1 : ((i : Int) < (rs.length : Int)) := by omega
      simp only [Int.toNat_natCast, rowAt_eq hi, rowAt_eq hi2, hr, hr', inbN, hi, hi2, hx1, decide_true, cond_true, Int.ofNat_lt, nth, List.getD_cons_zero, List.getD_cons_succ, D.I, D.S, D.L, D.B, wrap_succ hi hl]
      have hq : eqb [D.int a0] [D.int y0] = ((decide (a0 = y0))) := by simp only [eqb_cons, eqb_nil, eqb_int, eqb_str, eqb_bool, eqb_sl, Bool.and_true, Bool.and_assoc]
      rw [hq]
      all_goals (cases (decide (a0 = y0)) <;> rfl)
    · simp only [rn]
      rw [run_eq, g54_0_1_eq, g54_0_1]
      simp
  · rw [decide_eq_false (by omega : ¬ (rs.length : Int) = (rs'.length : Int)), eqb_len (fun h => hll h.symm)]
    rfl
theorem q143 {rs rs' : Rows} (hl : rs.length ≤ maxLen) (hl' : rs'.length ≤ maxLen) (hW : WRs H rs L121) (hW' : WRs H rs' L121) : rn ⟨143, 0, 0⟩ [.sl rs, .sl rs'] = some (0, [.bool (eqb rs rs')]) := by
  show run H Tryz.prog ⟨143, 0, 0⟩ _ = _
  rw [run_eq, g143_0_0_eq, g143_0_0]
  by_cases hll : rs'.length = rs.length
  · have hf := eq_loop (F := fun i => rn ⟨143, 0, 1⟩ [.sl rs, .sl rs', .int (i : Int)]) (A := some (0, [])) (B := some (1, [])) hll (fun i hi => ?_) ?_
    · simp only [rn, Int.natCast_zero] at hf
      rw [decide_eq_true (by omega : (rs.length : Int) = (rs'.length : Int))]
      simp only [Bool.not_true, cond_false]
      rw [hf]
      cases eqb rs rs' <;> rfl
    · have hi2 : i < rs'.length := by omega
      have hw := WRs_mem hW (List.getElem_mem hi)
      have hw' := WRs_mem hW' (List.getElem_mem hi2)
      obtain ⟨a0, a1, a2, a3, a4, hr, b0, b3, b4, c4⟩ := wl121 hw
      obtain ⟨y0, y1, y2, y3, y4, hr', by0, by3, by4, cy4⟩ := wl121 hw'
      rw [hr] at hw
      rw [hr'] at hw'
      have w1 : WL H [D.int a1, D.int a2, D.str a3, D.sl a4] L53 := WL.part 1 4 hw
      have w1p : WL H [D.int y1, D.int y2, D.str y3, D.sl y4] L53 := WL.part 1 4 hw'
      have e1 := q19 _ _ _ (Nat.lt_succ_self _) w1 w1p
      simp only [List.cons_append, List.nil_append] at e1
      simp only [rn] at e1
      simp only [rn]
      rw [run_eq, g143_0_1_eq, g143_0_1]
      have hx1 : ((i : Int) < (rs.length : Int)) := by omega
      simp only [Int.toNat_natCast, rowAt_eq hi, rowAt_eq hi2, hr, hr', inbN, hi, hi2, hx1, decide_true, cond_true, Int.ofNat_lt, nth, List.getD_cons_zero, List.getD_cons_succ, D.I, D.S, D.L, D.B, wrap_succ hi hl]
      simp only [e1, Option.bind_some, nth, List.getD_cons_zero, List.getD_cons_succ, D.I, D.S, D.L, D.B]
      have hq : eqb [D.str a0, D.int a1, D.int a2, D.str a3, D.sl a4] [D.str y0, D.int y1, D.int y2, D.str y3, D.sl y4] = ((decide (a0 = y0)) && (eqb [D.int a1, D.int a2, D.str a3, D.sl a4] [D.int y1, D.int y2, D.str y3, D.sl y4])) := by simp only [eqb_cons, eqb_nil, eqb_int, eqb_str, eqb_bool, eqb_sl, Bool.and_true, Bool.and_assoc]
      rw [hq]
      all_goals (cases (decide (a0 = y0)) <;> cases (eqb [D.int a1, D.int a2, D.str a3, D.sl a4] [D.int y1, D.int y2, D.str y3, D.sl y4]) <;> rfl)
    · simp only [rn]
      rw [run_eq, g143_0_1_eq, g143_0_1]
      simp
  · rw [decide_eq_false (by omega : ¬ (rs.length : Int) = (rs'.length : Int)), eqb_len (fun h => hll h.symm)]
    rfl
theorem q84l {rs rs' : Rows} (hl : rs.length ≤ maxLen) (hl' : rs'.length ≤ maxLen) (hW : WRs H rs L163) (hW' : WRs H rs' L163) : rn ⟨84, 0, 0⟩ [.sl rs, .sl rs'] = some (0, [.bool (eqb rs rs')]) := by
  show run H Tryz.prog ⟨84, 0, 0⟩ _ = _
  rw [run_eq, g84_0_0_eq, g84_0_0]
  by_cases hll : rs'.length = rs.length
  · have hf := eq_loop (F := fun i => rn ⟨84, 0, 1⟩ [.int (i : Int), .sl rs, .sl rs']) (A := some (0, [])) (B := some (1, [])) hll (fun i hi => ?_) ?_
    · simp only [rn, Int.natCast_zero] at hf
      rw [decide_eq_true (by omega : (rs.length : Int) = (rs'.length : Int))]
      simp only [Bool.not_true, cond_false]
      rw [hf]
      cases eqb rs rs' <;> rfl
    · have hi2 : i < rs'.length := by omega
      have hw := WRs_mem hW (List.getElem_mem hi)
      have hw' := WRs_mem hW' (List.getElem_mem hi2)
      obtain ⟨a0, a1, a2, a3, hr, b1, c1, b3, c3⟩ := wl163 hw
      obtain ⟨y0, y1, y2, y3, hr', by1, cy1, by3, cy3⟩ := wl163 hw'
      rw [hr] at hw
      rw [hr'] at hw'
      have e1 := q54 b1 by1 c1 cy1
      simp only [rn] at e1
      have e3 := q143 b3 by3 c3 cy3
      simp only [rn] at e3
      simp only [rn]
      rw [run_eq, g84_0_1_eq, g84_0_1]
      have hx1 : ((i : Int) < (rs.length : Int)) := by omega
      simp only [Int.toNat_natCast, rowAt_eq hi, rowAt_eq hi2, hr, hr', inbN, hi, hi2, hx1, decide_true, cond_true, Int.ofNat_lt, nth, List.getD_cons_zero, List.getD_cons_succ, D.I, D.S, D.L, D.B, wrap_succ hi hl]
      simp only [e1, e3, Option.bind_some, nth, List.getD_cons_zero, List.getD_cons_succ, D.I, D.S, D.L, D.B]
      have hq : eqb [D.int a0, D.sl a1, D.int a2, D.sl a3] [D.int y0, D.sl y1, D.int y2, D.sl y3] = ((decide (a0 = y0)) && (eqb a1 y1) && (decide (a2 = y2)) && (eqb a3 y3)) := by simp only [eqb_cons, eqb_nil, eqb_int, eqb_str, eqb_bool, eqb_sl, Bool.and_true, Bool.and_assoc]
      rw [hq]
      all_goals (cases (decide (a0 = y0)) <;> cases (eqb a1 y1) <;> cases (decide (a2 = y2)) <;> cases (eqb a3 y3) <;> rfl)
    · simp only [rn]
      rw [run_eq, g84_0_1_eq, g84_0_1]
      simp
  · rw [decide_eq_false (by omega : ¬ (rs.length : Int) = (rs'.length : Int)), eqb_len (fun h => hll h.symm)]
    rfl
theorem q84 {ds es : List D} (h : WL H ds L97) (h' : WL H es L97) : rn ⟨84, 0, 0⟩ (ds ++ es) = some (0, [.bool (eqb ds es)]) := by
  obtain ⟨a0, rfl, b0, c0⟩ := wl97 h
  obtain ⟨y0, rfl, by0, cy0⟩ := wl97 h'
  have := q84l b0 by0 c0 cy0
  simp only [eqb_cons, eqb_nil, eqb_sl, Bool.and_true]
  exact this
theorem q36 {ds es : List D} (h : WL H ds L88) (h' : WL H es L88) : rn ⟨36, 0, 0⟩ (ds ++ es) = some (0, [.bool (eqb ds es)]) := by
  have h0 := h
  have h0' := h'
  obtain ⟨a0, a1, a2, a3, rfl, b1, c1⟩ := wl88 h
  obtain ⟨y0, y1, y2, y3, rfl, by1, cy1⟩ := wl88 h'
  show run H Tryz.prog ⟨36, 0, 0⟩ [D.int a0, D.sl a1, D.int a2, D.int a3, D.int y0, D.sl y1, D.int y2, D.int y3] = _
  rw [run_eq, g36_0_0_eq, g36_0_0]
  have hq : eqb [D.int a0, D.sl a1, D.int a2, D.int a3] [D.int y0, D.sl y1, D.int y2, D.int y3] = ((decide (a0 = y0)) && (eqb a1 y1) && (decide (a2 = y2)) && (decide (a3 = y3))) := by simp only [eqb_cons, eqb_nil, eqb_int, eqb_str, eqb_bool, eqb_sl, Bool.and_true, Bool.and_assoc]
  rw [hq]
  by_cases l0n : y1.length ≠ a1.length
  · rw [decide_eq_false (by omega : ¬ (a1.length : Int) = (y1.length : Int)), eqb_len (fun h => l0n h.symm)]
    all_goals (cases (decide (a0 = y0)) <;> cases (decide (a2 = y2)) <;> cases (decide (a3 = y3)) <;> rfl)
  have l0 := Classical.not_not.1 l0n
  rw [decide_eq_true (by omega : (a1.length : Int) = (y1.length : Int))]
  have hf0 := eq_loop (F := fun i => rn ⟨36, 0, 1⟩ [.int (i : Int), .int a0, .sl a1, .int a2, .int a3, .int y0, .sl y1, .int y2, .int y3]) (A := some (0, [])) (B := some (1, [])) l0 (fun i hi => ?_) ?_
  rotate_left
  · have hi2 : i < y1.length := by omega
    have hw := WRs_mem c1 (List.getElem_mem hi)
    have hw' := WRs_mem cy1 (List.getElem_mem hi2)
    obtain ⟨u0, hr, bu0, cu0⟩ := wl97 hw
    obtain ⟨v0, hr', bv0, cv0⟩ := wl97 hw'
    have hc := q84 hw hw'
    rw [hr, hr'] at hc
    simp only [List.cons_append, List.nil_append] at hc
    simp only [rn] at hc
    simp only [rn]
    rw [run_eq, g36_0_1_eq, g36_0_1]
    simp only [Int.toNat_natCast, rowAt_eq hi, rowAt_eq hi2, hr, hr', inbN, hi, hi2, decide_true, cond_true, Int.ofNat_lt, nth, List.getD_cons_zero, List.getD_cons_succ, D.I, D.S, D.L, D.B, wrap_succ hi b1]
    simp only [hc, Option.bind_some, nth, List.getD_cons_zero, List.getD_cons_succ, D.I, D.S, D.L, D.B]
    cases (eqb [D.sl u0] [D.sl v0]) <;> rfl
  · simp only [rn]
    rw [run_eq, g36_0_1_eq, g36_0_1]
    simp
  simp only [rn, Int.natCast_zero] at hf0
  rw [hf0]
  cases hx0 : eqb a1 y1
  · all_goals (cases (decide (a0 = y0)) <;> cases (eqb a1 y1) <;> cases (decide (a2 = y2)) <;> cases (decide (a3 = y3)) <;> rfl)
  all_goals (cases (decide (a0 = y0)) <;> cases (eqb a1 y1) <;> cases (decide (a2 = y2)) <;> cases (decide (a3 = y3)) <;> rfl)
theorem q7 {ds es : List D} (h : WL H ds L46) (h' : WL H es L46) : rn ⟨7, 0, 0⟩ (ds ++ es) = some (0, [.bool (eqb ds es)]) := by
  have h0 := h
  have h0' := h'
  obtain ⟨a0, a1, a2, a3, a4, a5, a6, rfl, b0, b1, c1, b2, c2, b3, c3, b4, c4, b5, c5, b6, c6⟩ := wl46 h
  obtain ⟨y0, y1, y2, y3, y4, y5, y6, rfl, by0, by1, cy1, by2, cy2, by3, cy3, by4, cy4, by5, cy5, by6, cy6⟩ := wl46 h'
  show run H Tryz.prog ⟨7, 0, 0⟩ [D.str a0, D.sl a1, D.sl a2, D.sl a3, D.sl a4, D.sl a5, D.sl a6, D.str y0, D.sl y1, D.sl y2, D.sl y3, D.sl y4, D.sl y5, D.sl y6] = _
  rw [run_eq, g7_0_0_eq, g7_0_0]
  have w1 : WL H [D.sl a1, D.sl a2, D.sl a3, D.sl a4] L42 := WL.part 1 4 h0
  have w1p : WL H [D.sl y1, D.sl y2, D.sl y3, D.sl y4] L42 := WL.part 1 4 h0'
  have e1 := q34 w1 w1p
  simp only [List.cons_append, List.nil_append] at e1
  simp only [rn] at e1
  have e5 := q35 b5 by5 c5 cy5
  simp only [rn] at e5
  have w6 : WL H [D.int 0, D.sl a6, D.int 0, D.int 0] L88 := by unfold L88; simp only [WL, WD]; exact ⟨_, _, rfl, ⟨_, rfl, rfl⟩, ⟨_, _, rfl, ⟨_, _, rfl, ty97, b6, c6⟩, ⟨_, _, rfl, ⟨_, rfl, rfl⟩, ⟨_, _, rfl, ⟨_, rfl, rfl⟩, rfl⟩⟩⟩⟩
  have w6p : WL H [D.int 0, D.sl y6, D.int 0, D.int 0] L88 := by unfold L88; simp only [WL, WD]; exact ⟨_, _, rfl, ⟨_, rfl, rfl⟩, ⟨_, _, rfl, ⟨_, _, rfl, ty97, by6, cy6⟩, ⟨_, _, rfl, ⟨_, rfl, rfl⟩, ⟨_, _, rfl, ⟨_, rfl, rfl⟩, rfl⟩⟩⟩⟩
  have e6 := q36 w6 w6p
  simp only [List.cons_append, List.nil_append, eqb_cons, eqb_nil, eqb_int, eqb_str, eqb_bool, eqb_sl, Bool.and_true, decide_true, Bool.true_and] at e6
  simp only [rn] at e6
  simp only [e1, e5, e6, Option.bind_some, nth, List.getD_cons_zero, List.getD_cons_succ, D.I, D.S, D.L, D.B]
  have hq : eqb [D.str a0, D.sl a1, D.sl a2, D.sl a3, D.sl a4, D.sl a5, D.sl a6] [D.str y0, D.sl y1, D.sl y2, D.sl y3, D.sl y4, D.sl y5, D.sl y6] = ((decide (a0 = y0)) && (eqb [D.sl a1, D.sl a2, D.sl a3, D.sl a4] [D.sl y1, D.sl y2, D.sl y3, D.sl y4]) && (eqb a5 y5) && (eqb a6 y6)) := by simp only [eqb_cons, eqb_nil, eqb_int, eqb_str, eqb_bool, eqb_sl, Bool.and_true, Bool.and_assoc]
  rw [hq]
  all_goals (cases (decide (a0 = y0)) <;> cases (eqb [D.sl a1, D.sl a2, D.sl a3, D.sl a4] [D.sl y1, D.sl y2, D.sl y3, D.sl y4]) <;> cases (eqb a5 y5) <;> cases (eqb a6 y6) <;> rfl)
theorem q90 {rs rs' : Rows} (hl : rs.length ≤ maxLen) (hl' : rs'.length ≤ maxLen) (hW : WRs H rs L9) (hW' : WRs H rs' L9) : rn ⟨90, 0, 0⟩ [.sl rs, .sl rs'] = some (0, [.bool (eqb rs rs')]) := by
  show run H Tryz.prog ⟨90, 0, 0⟩ _ = _
  rw [run_eq, g90_0_0_eq, g90_0_0]
  by_cases hll : rs'.length = rs.length
  · have hf := eq_loop (F := fun i => rn ⟨90, 0, 1⟩ [.sl rs, .sl rs', .int (rs).length, .int (i : Int)]) (A := some (0, [])) (B := some (1, [])) hll (fun i hi => ?_) ?_
    · simp only [rn, Int.natCast_zero] at hf
      rw [decide_eq_true (by omega : (rs.length : Int) = (rs'.length : Int))]
      simp only [Bool.not_true, cond_false]
      rw [hf]
      cases eqb rs rs' <;> rfl
    · have hi2 : i < rs'.length := by omega
      have hw := WRs_mem hW (List.getElem_mem hi)
      have hw' := WRs_mem hW' (List.getElem_mem hi2)
      obtain ⟨a0, hr, b0⟩ := wl9 hw
      obtain ⟨y0, hr', by0⟩ := wl9 hw'
      simp only [rn]
      rw [run_eq, g90_0_1_eq, g90_0_1]
      have hx1 : ((i : Int) < (rs.length : Int)) := by omega
      simp only [Int.toNat_natCast, rowAt_eq hi, rowAt_eq hi2, hr, hr', inbN, hi, hi2, hx1, decide_true, cond_true, Int.ofNat_lt, nth, List.getD_cons_zero, List.getD_cons_succ, D.I, D.S, D.L, D.B, wrap_succ hi hl]
      have hq : eqb [D.str a0] [D.str y0] = ((decide (a0 = y0))) := by simp only [eqb_cons, eqb_nil, eqb_int, eqb_str, eqb_bool, eqb_sl, Bool.and_true, Bool.and_assoc]
      rw [hq]
      all_goals (cases (decide (a0 = y0)) <;> rfl)
    · simp only [rn]
      rw [run_eq, g90_0_1_eq, g90_0_1]
      simp
  · rw [decide_eq_false (by omega : ¬ (rs.length : Int) = (rs'.length : Int)), eqb_len (fun h => hll h.symm)]
    rfl
theorem q92 {ds es : List D} (h : WL H ds L154) (h' : WL H es L154) : rn ⟨92, 0, 0⟩ (ds ++ es) = some (0, [.bool (eqb ds es)]) := by
  have h0 := h
  have h0' := h'
  obtain ⟨a0, a1, a2, rfl, b0, b1, c1, b2⟩ := wl154 h
  obtain ⟨y0, y1, y2, rfl, by0, by1, cy1, by2⟩ := wl154 h'
  show run H Tryz.prog ⟨92, 0, 0⟩ [D.str a0, D.sl a1, D.str a2, D.str y0, D.sl y1, D.str y2] = _
  rw [run_eq, g92_0_0_eq, g92_0_0]
  have e1 := q90 b1 by1 c1 cy1
  simp only [rn] at e1
  simp only [e1, Option.bind_some, nth, List.getD_cons_zero, List.getD_cons_succ, D.I, D.S, D.L, D.B]
  have hq : eqb [D.str a0, D.sl a1, D.str a2] [D.str y0, D.sl y1, D.str y2] = ((decide (a0 = y0)) && (eqb a1 y1) && (decide (a2 = y2))) := by simp only [eqb_cons, eqb_nil, eqb_int, eqb_str, eqb_bool, eqb_sl, Bool.and_true, Bool.and_assoc]
  rw [hq]
  all_goals (cases (decide (a0 = y0)) <;> cases (eqb a1 y1) <;> cases (decide (a2 = y2)) <;> rfl)
theorem q91 {rs rs' : Rows} (hl : rs.length ≤ maxLen) (hl' : rs'.length ≤ maxLen) (hW : WRs H rs L154) (hW' : WRs H rs' L154) : rn ⟨91, 0, 0⟩ [.sl rs, .sl rs'] = some (0, [.bool (eqb rs rs')]) := by
  show run H Tryz.prog ⟨91, 0, 0⟩ _ = _
  rw [run_eq, g91_0_0_eq, g91_0_0]
  by_cases hll : rs'.length = rs.length
  · have hf := eq_loop (F := fun i => rn ⟨91, 0, 1⟩ [.sl rs', .sl rs, .int (rs).length, .int (i : Int)]) (A := some (0, [])) (B := some (1, [])) hll (fun i hi => ?_) ?_
    · simp only [rn, Int.natCast_zero] at hf
      rw [decide_eq_true (by omega : (rs.length : Int) = (rs'.length : Int))]
      simp only [Bool.not_true, cond_false]
      rw [hf]
      cases eqb rs rs' <;> rfl
    · have hi2 : i < rs'.length := by omega
      have hw := WRs_mem hW (List.getElem_mem hi)
      have hw' := WRs_mem hW' (List.getElem_mem hi2)
      obtain ⟨a0, a1, a2, hr, b0, b1, c1, b2⟩ := wl154 hw
      obtain ⟨y0, y1, y2, hr', by0, by1, cy1, by2⟩ := wl154 hw'
      have hc := q92 hw hw'
      rw [hr, hr'] at hc
      simp only [List.cons_append, List.nil_append] at hc
      simp only [rn] at hc
      simp only [rn]
      rw [run_eq, g91_0_1_eq, g91_0_1]
      have hx1 : ((i : Int) < (rs.length : Int)) := by omega
      simp only [Int.toNat_natCast, rowAt_eq hi, rowAt_eq hi2, hr, hr', inbN, hi, hi2, hx1, decide_true, cond_true, Int.ofNat_lt, nth, List.getD_cons_zero, List.getD_cons_succ, D.I, D.S, D.L, D.B, wrap_succ hi hl]
      simp only [hc, Option.bind_some, nth, List.getD_cons_zero, List.getD_cons_succ, D.I, D.S, D.L, D.B]
      cases (eqb [D.str a0, D.sl a1, D.str a2] [D.str y0, D.sl y1, D.str y2]) <;> rfl
    · simp only [rn]
      rw [run_eq, g91_0_1_eq, g91_0_1]
      simp
  · rw [decide_eq_false (by omega : ¬ (rs.length : Int) = (rs'.length : Int)), eqb_len (fun h => hll h.symm)]
    rfl
theorem q129 {rs rs' : Rows} (hl : rs.length ≤ maxLen) (hl' : rs'.length ≤ maxLen) (hW : WRs H rs L53) (hW' : WRs H rs' L53) (hel : ∀ r r', r ∈ rs → r' ∈ rs' → rn ⟨63, 0, 0⟩ (r ++ r') = some (0, [.bool (eqb r r')])) : rn ⟨129, 0, 0⟩ [.sl rs, .sl rs'] = some (0, [.bool (eqb rs rs')]) := by
  show run H Tryz.prog ⟨129, 0, 0⟩ _ = _
  rw [run_eq, g129_0_0_eq, g129_0_0]
  by_cases hll : rs'.length = rs.length
  · have hf := eq_loop (F := fun i => rn ⟨129, 0, 1⟩ [.sl rs', .sl rs, .int (rs).length, .int (i : Int)]) (A := some (0, [])) (B := some (1, [])) hll (fun i hi => ?_) ?_
    · simp only [rn, Int.natCast_zero] at hf
      rw [decide_eq_true (by omega : (rs.length : Int) = (rs'.length : Int))]
      simp only [Bool.not_true, cond_false]
      rw [hf]
      cases eqb rs rs' <;> rfl
    · have hi2 : i < rs'.length := by omega
      have hw := WRs_mem hW (List.getElem_mem hi)
      have hw' := WRs_mem hW' (List.getElem_mem hi2)
      obtain ⟨a0, a1, a2, a3, hr, b2, b3, c3⟩ := wl53 hw
      obtain ⟨y0, y1, y2, y3, hr', by2, by3, cy3⟩ := wl53 hw'
      have hc := hel _ _ (List.getElem_mem hi) (List.getElem_mem hi2)
      rw [hr, hr'] at hc
      simp only [List.cons_append, List.nil_append] at hc
      simp only [rn] at hc
      simp only [rn]
      rw [run_eq, g129_0_1_eq, g129_0_1]
      have hx1 : ((i : Int) < (rs.length : Int)) := by omega
      simp only [Int.toNat_natCast, rowAt_eq hi, rowAt_eq hi2, hr, hr', inbN, hi, hi2, hx1, decide_true, cond_true, Int.ofNat_lt, nth, List.getD_cons_zero, List.getD_cons_succ, D.I, D.S, D.L, D.B, wrap_succ hi hl]
      simp only [hc, Option.bind_some, nth, List.getD_cons_zero, List.getD_cons_succ, D.I, D.S, D.L, D.B]
      cases (eqb [D.int a0, D.int a1, D.str a2, D.sl a3] [D.int y0, D.int y1, D.str y2, D.sl y3]) <;> rfl
    · simp only [rn]
      rw [run_eq, g129_0_1_eq, g129_0_1]
      simp
  · rw [decide_eq_false (by omega : ¬ (rs.length : Int) = (rs'.length : Int)), eqb_len (fun h => hll h.symm)]
    rfl
theorem q63 : ∀ (N : Nat) (ds es : List D), SizeOf.sizeOf ds < N → WL H ds L53 → WL H es L53 → rn ⟨63, 0, 0⟩ (ds ++ es) = some (0, [.bool (eqb ds es)])
  | 0, ds, es, hN, _, _ => absurd hN (Nat.not_lt_zero _)
  | N + 1, ds, es, hN, h, h' => by
    have h0 := h
    have h0' := h'
    obtain ⟨a0, a1, a2, a3, rfl, b2, b3, c3⟩ := wl53 h
    obtain ⟨y0, y1, y2, y3, rfl, by2, by3, cy3⟩ := wl53 h'
    show run H Tryz.prog ⟨63, 0, 0⟩ [D.int a0, D.int a1, D.str a2, D.sl a3, D.int y0, D.int y1, D.str y2, D.sl y3] = _
    rw [run_eq, g63_0_0_eq, g63_0_0]
    have e3 := q129 b3 by3 c3 cy3 (fun r r' hr hr' => q63 N r r' (by have h1 := size_row hr; simp only [List.cons.sizeOf_spec, D.sl.sizeOf_spec] at hN; omega) (WRs_mem c3 hr) (WRs_mem cy3 hr'))
    simp only [rn] at e3
    simp only [e3, Option.bind_some, nth, List.getD_cons_zero, List.getD_cons_succ, D.I, D.S, D.L, D.B]
    have hq : eqb [D.int a0, D.int a1, D.str a2, D.sl a3] [D.int y0, D.int y1, D.str y2, D.sl y3] = ((decide (a0 = y0)) && (decide (a1 = y1)) && (decide (a2 = y2)) && (eqb a3 y3)) := by simp only [eqb_cons, eqb_nil, eqb_int, eqb_str, eqb_bool, eqb_sl, Bool.and_true, Bool.and_assoc]
    rw [hq]
    all_goals (cases (decide (a0 = y0)) <;> cases (decide (a1 = y1)) <;> cases (decide (a2 = y2)) <;> cases (eqb a3 y3) <;> rfl)
theorem q97 {ds es : List D} (h : WL H ds L110) (h' : WL H es L110) : rn ⟨97, 0, 0⟩ (ds ++ es) = some (0, [.bool (eqb ds es)]) := by
  have h0 := h
  have h0' := h'
  obtain ⟨a0, a1, a2, a3, a4, a5, a6, a7, a8, rfl, b3, b4, c4, b7, b8, c8⟩ := wl110 h
  obtain ⟨y0, y1, y2, y3, y4, y5, y6, y7, y8, rfl, by3, by4, cy4, by7, by8, cy8⟩ := wl110 h'
  show run H Tryz.prog ⟨97, 0, 0⟩ [D.int a0, D.int a1, D.int a2, D.str a3, D.sl a4, D.int a5, D.int a6, D.str a7, D.sl a8, D.int y0, D.int y1, D.int y2, D.str y3, D.sl y4, D.int y5, D.int y6, D.str y7, D.sl y8] = _
  rw [run_eq, g97_0_0_eq, g97_0_0]
  have w1 : WL H [D.int a1, D.int a2, D.str a3, D.sl a4] L53 := WL.part 1 4 h0
  have w1p : WL H [D.int y1, D.int y2, D.str y3, D.sl y4] L53 := WL.part 1 4 h0'
  have e1 := q63 _ _ _ (Nat.lt_succ_self _) w1 w1p
  simp only [List.cons_append, List.nil_append] at e1
  simp only [rn] at e1
  have w5 : WL H [D.int a5, D.int a6, D.str a7, D.sl a8] L53 := WL.part 5 4 h0
  have w5p : WL H [D.int y5, D.int y6, D.str y7, D.sl y8] L53 := WL.part 5 4 h0'
  have e5 := q63 _ _ _ (Nat.lt_succ_self _) w5 w5p
  simp only [List.cons_append, List.nil_append] at e5
  simp only [rn] at e5
  simp only [e1, e5, Option.bind_some, nth, List.getD_cons_zero, List.getD_cons_succ, D.I, D.S, D.L, D.B]
  have hq : eqb [D.int a0, D.int a1, D.int a2, D.str a3, D.sl a4, D.int a5, D.int a6, D.str a7, D.sl a8] [D.int y0, D.int y1, D.int y2, D.str y3, D.sl y4, D.int y5, D.int y6, D.str y7, D.sl y8] = ((decide (a0 = y0)) && (eqb [D.int a1, D.int a2, D.str a3, D.sl a4] [D.int y1, D.int y2, D.str y3, D.sl y4]) && (eqb [D.int a5, D.int a6, D.str a7, D.sl a8] [D.int y5, D.int y6, D.str y7, D.sl y8])) := by simp only [eqb_cons, eqb_nil, eqb_int, eqb_str, eqb_bool, eqb_sl, Bool.and_true, Bool.and_assoc]
  rw [hq]
  all_goals (cases (decide (a0 = y0)) <;> cases (eqb [D.int a1, D.int a2, D.str a3, D.sl a4] [D.int y1, D.int y2, D.str y3, D.sl y4]) <;> cases (eqb [D.int a5, D.int a6, D.str a7, D.sl a8] [D.int y5, D.int y6, D.str y7, D.sl y8]) <;> rfl)
theorem q96 {rs rs' : Rows} (hl : rs.length ≤ maxLen) (hl' : rs'.length ≤ maxLen) (hW : WRs H rs L110) (hW' : WRs H rs' L110) : rn ⟨96, 0, 0⟩ [.sl rs, .sl rs'] = some (0, [.bool (eqb rs rs')]) := by
  show run H Tryz.prog ⟨96, 0, 0⟩ _ = _
  rw [run_eq, g96_0_0_eq, g96_0_0]
  by_cases hll : rs'.length = rs.length
  · have hf := eq_loop (F := fun i => rn ⟨96, 0, 1⟩ [.sl rs', .sl rs, .int (rs).length, .int (i : Int)]) (A := some (0, [])) (B := some (1, [])) hll (fun i hi => ?_) ?_
    · simp only [rn, Int.natCast_zero] at hf
      rw [decide_eq_true (by omega : (rs.length : Int) = (rs'.length : Int))]
      simp only [Bool.not_true, cond_false]
      rw [hf]
      cases eqb rs rs' <;> rfl
    · have hi2 : i < rs'.length := by omega
      have hw := WRs_mem hW (List.getElem_mem hi)
      have hw' := WRs_mem hW' (List.getElem_mem hi2)
      obtain ⟨a0, a1, a2, a3, a4, a5, a6, a7, a8, hr, b3, b4, c4, b7, b8, c8⟩ := wl110 hw
      obtain ⟨y0, y1, y2, y3, y4, y5, y6, y7, y8, hr', by3, by4, cy4, by7, by8, cy8⟩ := wl110 hw'
      have hc := q97 hw hw'
      rw [hr, hr'] at hc
      simp only [List.cons_append, List.nil_append] at hc
      simp only [rn] at hc
      simp only [rn]
      rw [run_eq, g96_0_1_eq, g96_0_1]
      have hx1 : ((i : Int) < (rs.length : Int)) := by omega
      simp only [Int.toNat_natCast, rowAt_eq hi, rowAt_eq hi2, hr, hr', inbN, hi, hi2, hx1, decide_true, cond_true, Int.ofNat_lt, nth, List.getD_cons_zero, List.getD_cons_succ, D.I, D.S, D.L, D.B, wrap_succ hi hl]
      simp only [hc, Option.bind_some, nth, List.getD_cons_zero, List.getD_cons_succ, D.I, D.S, D.L, D.B]
      cases (eqb [D.int a0, D.int a1, D.int a2, D.str a3, D.sl a4, D.int a5, D.int a6, D.str a7, D.sl a8] [D.int y0, D.int y1, D.int y2, D.str y3, D.sl y4, D.int y5, D.int y6, D.str y7, D.sl y8]) <;> rfl
    · simp only [rn]
      rw [run_eq, g96_0_1_eq, g96_0_1]
      simp
  · rw [decide_eq_false (by omega : ¬ (rs.length : Int) = (rs'.length : Int)), eqb_len (fun h => hll h.symm)]
    rfl
theorem q94 {ds es : List D} (h : WL H ds L143) (h' : WL H es L143) : rn ⟨94, 0, 0⟩ (ds ++ es) = some (0, [.bool (eqb ds es)]) := by
  have h0 := h
  have h0' := h'
  obtain ⟨a0, a1, a2, a3, a4, a5, a6, a7, a8, a9, rfl, b0, b3, b4, c4, b7, b8, c8, b9, c9⟩ := wl143 h
  obtain ⟨y0, y1, y2, y3, y4, y5, y6, y7, y8, y9, rfl, by0, by3, by4, cy4, by7, by8, cy8, by9, cy9⟩ := wl143 h'
  show run H Tryz.prog ⟨94, 0, 0⟩ [D.str a0, D.int a1, D.int a2, D.str a3, D.sl a4, D.int a5, D.int a6, D.str a7, D.sl a8, D.sl a9, D.str y0, D.int y1, D.int y2, D.str y3, D.sl y4, D.int y5, D.int y6, D.str y7, D.sl y8, D.sl y9] = _
  rw [run_eq, g94_0_0_eq, g94_0_0]
  have w1 : WL H [D.int a1, D.int a2, D.str a3, D.sl a4] L53 := WL.part 1 4 h0
  have w1p : WL H [D.int y1, D.int y2, D.str y3, D.sl y4] L53 := WL.part 1 4 h0'
  have e1 := q63 _ _ _ (Nat.lt_succ_self _) w1 w1p
  simp only [List.cons_append, List.nil_append] at e1
  simp only [rn] at e1
  have w5 : WL H [D.int a5, D.int a6, D.str a7, D.sl a8] L53 := WL.part 5 4 h0
  have w5p : WL H [D.int y5, D.int y6, D.str y7, D.sl y8] L53 := WL.part 5 4 h0'
  have e5 := q63 _ _ _ (Nat.lt_succ_self _) w5 w5p
  simp only [List.cons_append, List.nil_append] at e5
  simp only [rn] at e5
  have e9 := q96 b9 by9 c9 cy9
  simp only [rn] at e9
  simp only [e1, e5, e9, Option.bind_some, nth, List.getD_cons_zero, List.getD_cons_succ, D.I, D.S, D.L, D.B]
  have hq : eqb [D.str a0, D.int a1, D.int a2, D.str a3, D.sl a4, D.int a5, D.int a6, D.str a7, D.sl a8, D.sl a9] [D.str y0, D.int y1, D.int y2, D.str y3, D.sl y4, D.int y5, D.int y6, D.str y7, D.sl y8, D.sl y9] = ((decide (a0 = y0)) && (eqb [D.int a1, D.int a2, D.str a3, D.sl a4] [D.int y1, D.int y2, D.str y3, D.sl y4]) && (eqb [D.int a5, D.int a6, D.str a7, D.sl a8] [D.int y5, D.int y6, D.str y7, D.sl y8]) && (eqb a9 y9)) := by simp only [eqb_cons, eqb_nil, eqb_int, eqb_str, eqb_bool, eqb_sl, Bool.and_true, Bool.and_assoc]
  rw [hq]
  all_goals (cases (decide (a0 = y0)) <;> cases (eqb [D.int a1, D.int a2, D.str a3, D.sl a4] [D.int y1, D.int y2, D.str y3, D.sl y4]) <;> cases (eqb [D.int a5, D.int a6, D.str a7, D.sl a8] [D.int y5, D.int y6, D.str y7, D.sl y8]) <;> cases (eqb a9 y9) <;> rfl)
theorem q93 {rs rs' : Rows} (hl : rs.length ≤ maxLen) (hl' : rs'.length ≤ maxLen) (hW : WRs H rs L143) (hW' : WRs H rs' L143) : rn ⟨93, 0, 0⟩ [.sl rs, .sl rs'] = some (0, [.bool (eqb rs rs')]) := by
  show run H Tryz.prog ⟨93, 0, 0⟩ _ = _
  rw [run_eq, g93_0_0_eq, g93_0_0]
  by_cases hll : rs'.length = rs.length
  · have hf := eq_loop (F := fun i => rn ⟨93, 0, 1⟩ [.sl rs', .sl rs, .int (rs).length, .int (i : Int)]) (A := some (0, [])) (B := some (1, [])) hll (fun i hi => ?_) ?_
    · simp only [rn, Int.natCast_zero] at hf
      rw [decide_eq_true (by omega : (rs.length : Int) = (rs'.length : Int))]
      simp only [Bool.not_true, cond_false]
      rw [hf]
      cases eqb rs rs' <;> rfl
    · have hi2 : i < rs'.length := by omega
      have hw := WRs_mem hW (List.getElem_mem hi)
      have hw' := WRs_mem hW' (List.getElem_mem hi2)
      obtain ⟨a0, a1, a2, a3, a4, a5, a6, a7, a8, a9, hr, b0, b3, b4, c4, b7, b8, c8, b9, c9⟩ := wl143 hw
      obtain ⟨y0, y1, y2, y3, y4, y5, y6, y7, y8, y9, hr', by0, by3, by4, cy4, by7, by8, cy8, by9, cy9⟩ := wl143 hw'
      have hc := q94 hw hw'
      rw [hr, hr'] at hc
      simp only [List.cons_append, List.nil_append] at hc
      simp only [rn] at hc
      simp only [rn]
      rw [run_eq, g93_0_1_eq, g93_0_1]
      have hx1 : ((i : Int) < (rs.length : Int)) := by omega
      simp only [Int.toNat_natCast, rowAt_eq hi, rowAt_eq hi2, hr, hr', inbN, hi, hi2, hx1, decide_true, cond_true, Int.ofNat_lt, nth, List.getD_cons_zero, List.getD_cons_succ, D.I, D.S, D.L, D.B, wrap_succ hi hl]
      simp only [hc, Option.bind_some, nth, List.getD_cons_zero, List.getD_cons_succ, D.I, D.S, D.L, D.B]
      cases (eqb [D.str a0, D.int a1, D.int a2, D.str a3, D.sl a4, D.int a5, D.int a6, D.str a7, D.sl a8, D.sl a9] [D.str y0, D.int y1, D.int y2, D.str y3, D.sl y4, D.int y5, D.int y6, D.str y7, D.sl y8, D.sl y9]) <;> rfl
    · simp only [rn]
      rw [run_eq, g93_0_1_eq, g93_0_1]
      simp
  · rw [decide_eq_false (by omega : ¬ (rs.length : Int) = (rs'.length : Int)), eqb_len (fun h => hll h.symm)]
    rfl
theorem q95 {rs rs' : Rows} (hl : rs.length ≤ maxLen) (hl' : rs'.length ≤ maxLen) (hW : WRs H rs L146) (hW' : WRs H rs' L146) : rn ⟨95, 0, 0⟩ [.sl rs, .sl rs'] = some (0, [.bool (eqb rs rs')]) := by
  show run H Tryz.prog ⟨95, 0, 0⟩ _ = _
  rw [run_eq, g95_0_0_eq, g95_0_0]
  by_cases hll : rs'.length = rs.length
  · have hf := eq_loop (F := fun i => rn ⟨95, 0, 1⟩ [.sl rs, .sl rs', .int (rs).length, .int (i : Int)]) (A := some (0, [])) (B := some (1, [])) hll (fun i hi => ?_) ?_
    · simp only [rn, Int.natCast_zero] at hf
      rw [decide_eq_true (by omega : (rs.length : Int) = (rs'.length : Int))]
      simp only [Bool.not_true, cond_false]
      rw [hf]
      cases eqb rs rs' <;> rfl
    · have hi2 : i < rs'.length := by omega
      have hw := WRs_mem hW (List.getElem_mem hi)
      have hw' := WRs_mem hW' (List.getElem_mem hi2)
      obtain ⟨a0, a1, hr, b0⟩ := wl146 hw
      obtain ⟨y0, y1, hr', by0⟩ := wl146 hw'
      rw [hr] at hw
      rw [hr'] at hw'
      simp only [rn]
      rw [run_eq, g95_0_1_eq, g95_0_1]
      have hx1 : ((i : Int) < (rs.length : Int)) := by omega
      simp only [Int.toNat_natCast, rowAt_eq hi, rowAt_eq hi2, hr, hr', inbN, hi, hi2, hx1, decide_true, cond_true, Int.ofNat_lt, nth, List.getD_cons_zero, List.getD_cons_succ, D.I, D.S, D.L, D.B, wrap_succ hi hl]
      have hq : eqb [D.str a0, D.int a1] [D.str y0, D.int y1] = ((decide (a0 = y0)) && (decide (a1 = y1))) := by simp only [eqb_cons, eqb_nil, eqb_int, eqb_str, eqb_bool, eqb_sl, Bool.and_true, Bool.and_assoc]
      rw [hq]
      all_goals (cases (decide (a0 = y0)) <;> cases (decide (a1 = y1)) <;> rfl)
    · simp only [rn]
      rw [run_eq, g95_0_1_eq, g95_0_1]
      simp
  · rw [decide_eq_false (by omega : ¬ (rs.length : Int) = (rs'.length : Int)), eqb_len (fun h => hll h.symm)]
    rfl
theorem q40 {ds es : List D} (h : WL H ds L42) (h' : WL H es L42) : rn ⟨40, 0, 0⟩ (ds ++ es) = some (0, [.bool (eqb ds es)]) := by
  have h0 := h
  have h0' := h'
  obtain ⟨a0, a1, a2, a3, rfl, b0, c0, b1, c1, b2, c2, b3, c3⟩ := wl42 h
  obtain ⟨y0, y1, y2, y3, rfl, by0, cy0, by1, cy1, by2, cy2, by3, cy3⟩ := wl42 h'
  show run H Tryz.prog ⟨40, 0, 0⟩ [D.sl a0, D.sl a1, D.sl a2, D.sl a3, D.sl y0, D.sl y1, D.sl y2, D.sl y3] = _
  rw [run_eq, g40_0_0_eq, g40_0_0]
  have e0 := q90 b0 by0 c0 cy0
  simp only [rn] at e0
  have e1 := q91 b1 by1 c1 cy1
  simp only [rn] at e1
  have e2 := q93 b2 by2 c2 cy2
  simp only [rn] at e2
  have e3 := q95 b3 by3 c3 cy3
  simp only [rn] at e3
  simp only [e0, e1, e2, e3, Option.bind_some, nth, List.getD_cons_zero, List.getD_cons_succ, D.I, D.S, D.L, D.B]
  have hq : eqb [D.sl a0, D.sl a1, D.sl a2, D.sl a3] [D.sl y0, D.sl y1, D.sl y2, D.sl y3] = ((eqb a0 y0) && (eqb a1 y1) && (eqb a2 y2) && (eqb a3 y3)) := by simp only [eqb_cons, eqb_nil, eqb_int, eqb_str, eqb_bool, eqb_sl, Bool.and_true, Bool.and_assoc]
  rw [hq]
  all_goals (cases (eqb a0 y0) <;> cases (eqb a1 y1) <;> cases (eqb a2 y2) <;> cases (eqb a3 y3) <;> rfl)
theorem q42 {ds es : List D} (h : WL H ds L56) (h' : WL H es L56) : rn ⟨42, 0, 0⟩ (ds ++ es) = some (0, [.bool (eqb ds es)]) := by
  have h0 := h
  have h0' := h'
  obtain ⟨a0, a1, a2, a3, a4, a5, a6, a7, a8, a9, rfl, b0, c0, b3, b4, c4, b7, b8, c8, b9, c9⟩ := wl56 h
  obtain ⟨y0, y1, y2, y3, y4, y5, y6, y7, y8, y9, rfl, by0, cy0, by3, by4, cy4, by7, by8, cy8, by9, cy9⟩ := wl56 h'
  show run H Tryz.prog ⟨42, 0, 0⟩ [D.sl a0, D.int a1, D.int a2, D.str a3, D.sl a4, D.int a5, D.int a6, D.str a7, D.sl a8, D.sl a9, D.sl y0, D.int y1, D.int y2, D.str y3, D.sl y4, D.int y5, D.int y6, D.str y7, D.sl y8, D.sl y9] = _
  rw [run_eq, g42_0_0_eq, g42_0_0]
  have e0 := q90 b0 by0 c0 cy0
  simp only [rn] at e0
  have w1 : WL H [D.int a1, D.int a2, D.str a3, D.sl a4] L53 := WL.part 1 4 h0
  have w1p : WL H [D.int y1, D.int y2, D.str y3, D.sl y4] L53 := WL.part 1 4 h0'
  have e1 := q63 _ _ _ (Nat.lt_succ_self _) w1 w1p
  simp only [List.cons_append, List.nil_append] at e1
  simp only [rn] at e1
  have w5 : WL H [D.int a5, D.int a6, D.str a7, D.sl a8] L53 := WL.part 5 4 h0
  have w5p : WL H [D.int y5, D.int y6, D.str y7, D.sl y8] L53 := WL.part 5 4 h0'
  have e5 := q63 _ _ _ (Nat.lt_succ_self _) w5 w5p
  simp only [List.cons_append, List.nil_append] at e5
  simp only [rn] at e5
  have e9 := q96 b9 by9 c9 cy9
  simp only [rn] at e9
  simp only [e0, e1, e5, e9, Option.bind_some, nth, List.getD_cons_zero, List.getD_cons_succ, D.I, D.S, D.L, D.B]
  have hq : eqb [D.sl a0, D.int a1, D.int a2, D.str a3, D.sl a4, D.int a5, D.int a6, D.str a7, D.sl a8, D.sl a9] [D.sl y0, D.int y1, D.int y2, D.str y3, D.sl y4, D.int y5, D.int y6, D.str y7, D.sl y8, D.sl y9] = ((eqb a0 y0) && (eqb [D.int a1, D.int a2, D.str a3, D.sl a4] [D.int y1, D.int y2, D.str y3, D.sl y4]) && (eqb [D.int a5, D.int a6, D.str a7, D.sl a8] [D.int y5, D.int y6, D.str y7, D.sl y8]) && (eqb a9 y9)) := by simp only [eqb_cons, eqb_nil, eqb_int, eqb_str, eqb_bool, eqb_sl, Bool.and_true, Bool.and_assoc]
  rw [hq]
  all_goals (cases (eqb a0 y0) <;> cases (eqb [D.int a1, D.int a2, D.str a3, D.sl a4] [D.int y1, D.int y2, D.str y3, D.sl y4]) <;> cases (eqb [D.int a5, D.int a6, D.str a7, D.sl a8] [D.int y5, D.int y6, D.str y7, D.sl y8]) <;> cases (eqb a9 y9) <;> rfl)
theorem q41 {rs rs' : Rows} (hl : rs.length ≤ maxLen) (hl' : rs'.length ≤ maxLen) (hW : WRs H rs L56) (hW' : WRs H rs' L56) : rn ⟨41, 0, 0⟩ [.sl rs, .sl rs'] = some (0, [.bool (eqb rs rs')]) := by
  show run H Tryz.prog ⟨41, 0, 0⟩ _ = _
  rw [run_eq, g41_0_0_eq, g41_0_0]
  by_cases hll : rs'.length = rs.length
  · have hf := eq_loop (F := fun i => rn ⟨41, 0, 1⟩ [.sl rs', .sl rs, .int (rs).length, .int (i : Int)]) (A := some (0, [])) (B := some (1, [])) hll (fun i hi => ?_) ?_
    · simp only [rn, Int.natCast_zero] at hf
      rw [decide_eq_true (by omega : (rs.length : Int) = (rs'.length : Int))]
      simp only [Bool.not_true, cond_false]
      rw [hf]
      cases eqb rs rs' <;> rfl
    · have hi2 : i < rs'.length := by omega
      have hw := WRs_mem hW (List.getElem_mem hi)
      have hw' := WRs_mem hW' (List.getElem_mem hi2)
      obtain ⟨a0, a1, a2, a3, a4, a5, a6, a7, a8, a9, hr, b0, c0, b3, b4, c4, b7, b8, c8, b9, c9⟩ := wl56 hw
      obtain ⟨y0, y1, y2, y3, y4, y5, y6, y7, y8, y9, hr', by0, cy0, by3, by4, cy4, by7, by8, cy8, by9, cy9⟩ := wl56 hw'
      have hc := q42 hw hw'
      rw [hr, hr'] at hc
      simp only [List.cons_append, List.nil_append] at hc
      simp only [rn] at hc
      simp only [rn]
      rw [run_eq, g41_0_1_eq, g41_0_1]
      have hx1 : ((i : Int) < (rs.length : Int)) := by omega
      simp only [Int.toNat_natCast, rowAt_eq hi, rowAt_eq hi2, hr, hr', inbN, hi, hi2, hx1, decide_true, cond_true, Int.ofNat_lt, nth, List.getD_cons_zero, List.getD_cons_succ, D.I, D.S, D.L, D.B, wrap_succ hi hl]
      simp only [hc, Option.bind_some, nth, List.getD_cons_zero, List.getD_cons_succ, D.I, D.S, D.L, D.B]
      cases (eqb [D.sl a0, D.int a1, D.int a2, D.str a3, D.sl a4, D.int a5, D.int a6, D.str a7, D.sl a8, D.sl a9] [D.sl y0, D.int y1, D.int y2, D.str y3, D.sl y4, D.int y5, D.int y6, D.str y7, D.sl y8, D.sl y9]) <;> rfl
    · simp only [rn]
      rw [run_eq, g41_0_1_eq, g41_0_1]
      simp
  · rw [decide_eq_false (by omega : ¬ (rs.length : Int) = (rs'.length : Int)), eqb_len (fun h => hll h.symm)]
    rfl
theorem q151 {rs rs' : Rows} (hl : rs.length ≤ maxLen) (hl' : rs'.length ≤ maxLen) (hW : WRs H rs L3) (hW' : WRs H rs' L3) : rn ⟨151, 0, 0⟩ [.sl rs, .sl rs'] = some (0, [.bool (eqb rs rs')]) := by
  show run H Tryz.prog ⟨151, 0, 0⟩ _ = _
  rw [run_eq, g151_0_0_eq, g151_0_0]
  by_cases hll : rs'.length = rs.length
  · have hf := eq_loop (F := fun i => rn ⟨151, 0, 1⟩ [.sl rs, .sl rs', .int (rs).length, .int (i : Int)]) (A := some (0, [])) (B := some (1, [])) hll (fun i hi => ?_) ?_
    · simp only [rn, Int.natCast_zero] at hf
      rw [decide_eq_true (by omega : (rs.length : Int) = (rs'.length : Int))]
      simp only [Bool.not_true, cond_false]
      rw [hf]
      cases eqb rs rs' <;> rfl
    · have hi2 : i < rs'.length := by omega
      have hw := WRs_mem hW (List.getElem_mem hi)
      have hw' := WRs_mem hW' (List.getElem_mem hi2)
      obtain ⟨a0, hr⟩ := wl3 hw
      obtain ⟨y0, hr'⟩ := wl3 hw'
      simp only [rn]
      rw [run_eq, g151_0_1_eq, g151_0_1]
      have hx1 : ((i : Int) < (rs.length : Int)) := by omega
      simp only [Int.toNat_natCast, rowAt_eq hi, rowAt_eq hi2, hr, hr', inbN, hi, hi2, hx1, decide_true, cond_true, Int.ofNat_lt, nth, List.getD_cons_zero, List.getD_cons_succ, D.I, D.S, D.L, D.B, wrap_succ hi hl]
      have hq : eqb [D.int a0] [D.int y0] = ((decide (a0 = y0))) := by simp only [eqb_cons, eqb_nil, eqb_int, eqb_str, eqb_bool, eqb_sl, Bool.and_true, Bool.and_assoc]
      rw [hq]
      all_goals (cases (decide (a0 = y0)) <;> rfl)
    · simp only [rn]
      rw [run_eq, g151_0_1_eq, g151_0_1]
      simp
  · rw [decide_eq_false (by omega : ¬ (rs.length : Int) = (rs'.length : Int)), eqb_len (fun h => hll h.symm)]
    rfl
theorem q153 {ds es : List D} (h : WL H ds L121) (h' : WL H es L121) : rn ⟨153, 0, 0⟩ (ds ++ es) = some (0, [.bool (eqb ds es)]) := by
  have h0 := h
  have h0' := h'
  obtain ⟨a0, a1, a2, a3, a4, rfl, b0, b3, b4, c4⟩ := wl121 h
  obtain ⟨y0, y1, y2, y3, y4, rfl, by0, by3, by4, cy4⟩ := wl121 h'
  show run H Tryz.prog ⟨153, 0, 0⟩ [D.str a0, D.int a1, D.int a2, D.str a3, D.sl a4, D.str y0, D.int y1, D.int y2, D.str y3, D.sl y4] = _
  rw [run_eq, g153_0_0_eq, g153_0_0]
  have w1 : WL H [D.int a1, D.int a2, D.str a3, D.sl a4] L53 := WL.part 1 4 h0
  have w1p : WL H [D.int y1, D.int y2, D.str y3, D.sl y4] L53 := WL.part 1 4 h0'
  have e1 := q63 _ _ _ (Nat.lt_succ_self _) w1 w1p
  simp only [List.cons_append, List.nil_append] at e1
  simp only [rn] at e1
  simp only [e1, Option.bind_some, nth, List.getD_cons_zero, List.getD_cons_succ, D.I, D.S, D.L, D.B]
  have hq : eqb [D.str a0, D.int a1, D.int a2, D.str a3, D.sl a4] [D.str y0, D.int y1, D.int y2, D.str y3, D.sl y4] = ((decide (a0 = y0)) && (eqb [D.int a1, D.int a2, D.str a3, D.sl a4] [D.int y1, D.int y2, D.str y3, D.sl y4])) := by simp only [eqb_cons, eqb_nil, eqb_int, eqb_str, eqb_bool, eqb_sl, Bool.and_true, Bool.and_assoc]
  rw [hq]
  all_goals (cases (decide (a0 = y0)) <;> cases (eqb [D.int a1, D.int a2, D.str a3, D.sl a4] [D.int y1, D.int y2, D.str y3, D.sl y4]) <;> rfl)
theorem q152 {rs rs' : Rows} (hl : rs.length ≤ maxLen) (hl' : rs'.length ≤ maxLen) (hW : WRs H rs L121) (hW' : WRs H rs' L121) : rn ⟨152, 0, 0⟩ [.sl rs, .sl rs'] = some (0, [.bool (eqb rs rs')]) := by
  show run H Tryz.prog ⟨152, 0, 0⟩ _ = _
  rw [run_eq, g152_0_0_eq, g152_0_0]
  by_cases hll : rs'.length = rs.length
  · have hf := eq_loop (F := fun i => rn ⟨152, 0, 1⟩ [.sl rs', .sl rs, .int (rs).length, .int (i : Int)]) (A := some (0, [])) (B := some (1, [])) hll (fun i hi => ?_) ?_
    · simp only [rn, Int.natCast_zero] at hf
      rw [decide_eq_true (by omega : (rs.length : Int) = (rs'.length : Int))]
      simp only [Bool.not_true, cond_false]
      rw [hf]
      cases eqb rs rs' <;> rfl
    · have hi2 : i < rs'.length := by omega
      have hw := WRs_mem hW (List.getElem_mem hi)
      have hw' := WRs_mem hW' (List.getElem_mem hi2)
      obtain ⟨a0, a1, a2, a3, a4, hr, b0, b3, b4, c4⟩ := wl121 hw
      obtain ⟨y0, y1, y2, y3, y4, hr', by0, by3, by4, cy4⟩ := wl121 hw'
      have hc := q153 hw hw'
      rw [hr, hr'] at hc
      simp only [List.cons_append, List.nil_append] at hc
      simp only [rn] at hc
      simp only [rn]
      rw [run_eq, g152_0_1_eq, g152_0_1]
      have hx1 : ((i : Int) < (rs.length : Int)) := by omega
      simp only [Int.toNat_natCast, rowAt_eq hi, rowAt_eq hi2, hr, hr', inbN, hi, hi2, hx1, decide_true, cond_true, Int.ofNat_lt, nth, List.getD_cons_zero, List.getD_cons_succ, D.I, D.S, D.L, D.B, wrap_succ hi hl]
      simp only [hc, Option.bind_some, nth, List.getD_cons_zero, List.getD_cons_succ, D.I, D.S, D.L, D.B]
      cases (eqb [D.str a0, D.int a1, D.int a2, D.str a3, D.sl a4] [D.str y0, D.int y1, D.int y2, D.str y3, D.sl y4]) <;> rfl
    · simp only [rn]
      rw [run_eq, g152_0_1_eq, g152_0_1]
      simp
  · rw [decide_eq_false (by omega : ¬ (rs.length : Int) = (rs'.length : Int)), eqb_len (fun h => hll h.symm)]
    rfl
theorem q99 {ds es : List D} (h : WL H ds L163) (h' : WL H es L163) : rn ⟨99, 0, 0⟩ (ds ++ es) = some (0, [.bool (eqb ds es)]) := by
  have h0 := h
  have h0' := h'
  obtain ⟨a0, a1, a2, a3, rfl, b1, c1, b3, c3⟩ := wl163 h
  obtain ⟨y0, y1, y2, y3, rfl, by1, cy1, by3, cy3⟩ := wl163 h'
  show run H Tryz.prog ⟨99, 0, 0⟩ [D.int a0, D.sl a1, D.int a2, D.sl a3, D.int y0, D.sl y1, D.int y2, D.sl y3] = _
  rw [run_eq, g99_0_0_eq, g99_0_0]
  have e1 := q151 b1 by1 c1 cy1
  simp only [rn] at e1
  have e3 := q152 b3 by3 c3 cy3
  simp only [rn] at e3
  simp only [e1, e3, Option.bind_some, nth, List.getD_cons_zero, List.getD_cons_succ, D.I, D.S, D.L, D.B]
  have hq : eqb [D.int a0, D.sl a1, D.int a2, D.sl a3] [D.int y0, D.sl y1, D.int y2, D.sl y3] = ((decide (a0 = y0)) && (eqb a1 y1) && (decide (a2 = y2)) && (eqb a3 y3)) := by simp only [eqb_cons, eqb_nil, eqb_int, eqb_str, eqb_bool, eqb_sl, Bool.and_true, Bool.and_assoc]
  rw [hq]
  all_goals (cases (decide (a0 = y0)) <;> cases (eqb a1 y1) <;> cases (decide (a2 = y2)) <;> cases (eqb a3 y3) <;> rfl)
theorem q98 {rs rs' : Rows} (hl : rs.length ≤ maxLen) (hl' : rs'.length ≤ maxLen) (hW : WRs H rs L163) (hW' : WRs H rs' L163) : rn ⟨98, 0, 0⟩ [.sl rs, .sl rs'] = some (0, [.bool (eqb rs rs')]) := by
  show run H Tryz.prog ⟨98, 0, 0⟩ _ = _
  rw [run_eq, g98_0_0_eq, g98_0_0]
  by_cases hll : rs'.length = rs.length
  · have hf := eq_loop (F := fun i => rn ⟨98, 0, 1⟩ [.sl rs', .sl rs, .int (rs).length, .int (i : Int)]) (A := some (0, [])) (B := some (1, [])) hll (fun i hi => ?_) ?_
    · simp only [rn, Int.natCast_zero] at hf
      rw [decide_eq_true (by omega : (rs.length : Int) = (rs'.length : Int))]
      simp only [Bool.not_true, cond_false]
      rw [hf]
      cases eqb rs rs' <;> rfl
    · have hi2 : i < rs'.length := by omega
      have hw := WRs_mem hW (List.getElem_mem hi)
      have hw' := WRs_mem hW' (List.getElem_mem hi2)
      obtain ⟨a0, a1, a2, a3, hr, b1, c1, b3, c3⟩ := wl163 hw
      obtain ⟨y0, y1, y2, y3, hr', by1, cy1, by3, cy3⟩ := wl163 hw'
      have hc := q99 hw hw'
      rw [hr, hr'] at hc
      simp only [List.cons_append, List.nil_append] at hc
      simp only [rn] at hc
      simp only [rn]
      rw [run_eq, g98_0_1_eq, g98_0_1]
      have hx1 : ((i : Int) < (rs.length : Int)) := by omega
      simp only [Int.toNat_natCast, rowAt_eq hi, rowAt_eq hi2, hr, hr', inbN, hi, hi2, hx1, decide_true, cond_true, Int.ofNat_lt, nth, List.getD_cons_zero, List.getD_cons_succ, D.I, D.S, D.L, D.B, wrap_succ hi hl]
      simp only [hc, Option.bind_some, nth, List.getD_cons_zero, List.getD_cons_succ, D.I, D.S, D.L, D.B]
      cases (eqb [D.int a0, D.sl a1, D.int a2, D.sl a3] [D.int y0, D.sl y1, D.int y2, D.sl y3]) <;> rfl
    · simp only [rn]
      rw [run_eq, g98_0_1_eq, g98_0_1]
      simp
  · rw [decide_eq_false (by omega : ¬ (rs.length : Int) = (rs'.length : Int)), eqb_len (fun h => hll h.symm)]
    rfl
theorem q44 {ds es : List D} (h : WL H ds L97) (h' : WL H es L97) : rn ⟨44, 0, 0⟩ (ds ++ es) = some (0, [.bool (eqb ds es)]) := by
  have h0 := h
  have h0' := h'
  obtain ⟨a0, rfl, b0, c0⟩ := wl97 h
  obtain ⟨y0, rfl, by0, cy0⟩ := wl97 h'
  show run H Tryz.prog ⟨44, 0, 0⟩ [D.sl a0, D.sl y0] = _
  rw [run_eq, g44_0_0_eq, g44_0_0]
  have e0 := q98 b0 by0 c0 cy0
  simp only [rn] at e0
  simp only [e0, Option.bind_some, nth, List.getD_cons_zero, List.getD_cons_succ, D.I, D.S, D.L, D.B]
  have hq : eqb [D.sl a0] [D.sl y0] = ((eqb a0 y0)) := by simp only [eqb_cons, eqb_nil, eqb_int, eqb_str, eqb_bool, eqb_sl, Bool.and_true, Bool.and_assoc]
  rw [hq]
  all_goals (cases (eqb a0 y0) <;> rfl)
theorem q43 {rs rs' : Rows} (hl : rs.length ≤ maxLen) (hl' : rs'.length ≤ maxLen) (hW : WRs H rs L97) (hW' : WRs H rs' L97) : rn ⟨43, 0, 0⟩ [.sl rs, .sl rs'] = some (0, [.bool (eqb rs rs')]) := by
  show run H Tryz.prog ⟨43, 0, 0⟩ _ = _
  rw [run_eq, g43_0_0_eq, g43_0_0]
  by_cases hll : rs'.length = rs.length
  · have hf := eq_loop (F := fun i => rn ⟨43, 0, 1⟩ [.sl rs', .sl rs, .int (rs).length, .int (i : Int)]) (A := some (0, [])) (B := some (1, [])) hll (fun i hi => ?_) ?_
    · simp only [rn, Int.natCast_zero] at hf
      rw [decide_eq_true (by omega : (rs.length : Int) = (rs'.length : Int))]
      simp only [Bool.not_true, cond_false]
      rw [hf]
      cases eqb rs rs' <;> rfl
    · have hi2 : i < rs'.length := by omega
      have hw := WRs_mem hW (List.getElem_mem hi)
      have hw' := WRs_mem hW' (List.getElem_mem hi2)
      obtain ⟨a0, hr, b0, c0⟩ := wl97 hw
      obtain ⟨y0, hr', by0, cy0⟩ := wl97 hw'
      have hc := q44 hw hw'
      rw [hr, hr'] at hc
      simp only [List.cons_append, List.nil_append] at hc
      simp only [rn] at hc
      simp only [rn]
      rw [run_eq, g43_0_1_eq, g43_0_1]
      have hx1 : ((i : Int) < (rs.length : Int)) := by omega
      simp only [Int.toNat_natCast, rowAt_eq hi, rowAt_eq hi2, hr, hr', inbN, hi, hi2, hx1, decide_true, cond_true, Int.ofNat_lt, nth, List.getD_cons_zero, List.getD_cons_succ, D.I, D.S, D.L, D.B, wrap_succ hi hl]
      simp only [hc, Option.bind_some, nth, List.getD_cons_zero, List.getD_cons_succ, D.I, D.S, D.L, D.B]
      cases (eqb [D.sl a0] [D.sl y0]) <;> rfl
    · simp only [rn]
      rw [run_eq, g43_0_1_eq, g43_0_1]
      simp
  · rw [decide_eq_false (by omega : ¬ (rs.length : Int) = (rs'.length : Int)), eqb_len (fun h => hll h.symm)]
    rfl
theorem q9 {ds es : List D} (h : WL H ds L46) (h' : WL H es L46) : rn ⟨9, 0, 0⟩ (ds ++ es) = some (0, [.bool (eqb ds es)]) := by
  have h0 := h
  have h0' := h'
  obtain ⟨a0, a1, a2, a3, a4, a5, a6, rfl, b0, b1, c1, b2, c2, b3, c3, b4, c4, b5, c5, b6, c6⟩ := wl46 h
  obtain ⟨y0, y1, y2, y3, y4, y5, y6, rfl, by0, by1, cy1, by2, cy2, by3, cy3, by4, cy4, by5, cy5, by6, cy6⟩ := wl46 h'
  show run H Tryz.prog ⟨9, 0, 0⟩ [D.str a0, D.sl a1, D.sl a2, D.sl a3, D.sl a4, D.sl a5, D.sl a6, D.str y0, D.sl y1, D.sl y2, D.sl y3, D.sl y4, D.sl y5, D.sl y6] = _
  rw [run_eq, g9_0_0_eq, g9_0_0]
  have w1 : WL H [D.sl a1, D.sl a2, D.sl a3, D.sl a4] L42 := WL.part 1 4 h0
  have w1p : WL H [D.sl y1, D.sl y2, D.sl y3, D.sl y4] L42 := WL.part 1 4 h0'
  have e1 := q40 w1 w1p
  simp only [List.cons_append, List.nil_append] at e1
  simp only [rn] at e1
  have e5 := q41 b5 by5 c5 cy5
  simp only [rn] at e5
  have e6 := q43 b6 by6 c6 cy6
  simp only [rn] at e6
  simp only [e1, e5, e6, Option.bind_some, nth, List.getD_cons_zero, List.getD_cons_succ, D.I, D.S, D.L, D.B]
  have hq : eqb [D.str a0, D.sl a1, D.sl a2, D.sl a3, D.sl a4, D.sl a5, D.sl a6] [D.str y0, D.sl y1, D.sl y2, D.sl y3, D.sl y4, D.sl y5, D.sl y6] = ((decide (a0 = y0)) && (eqb [D.sl a1, D.sl a2, D.sl a3, D.sl a4] [D.sl y1, D.sl y2, D.sl y3, D.sl y4]) && (eqb a5 y5) && (eqb a6 y6)) := by simp only [eqb_cons, eqb_nil, eqb_int, eqb_str, eqb_bool, eqb_sl, Bool.and_true, Bool.and_assoc]
  rw [hq]
  all_goals (cases (decide (a0 = y0)) <;> cases (eqb [D.sl a1, D.sl a2, D.sl a3, D.sl a4] [D.sl y1, D.sl y2, D.sl y3, D.sl y4]) <;> cases (eqb a5 y5) <;> cases (eqb a6 y6) <;> rfl)
end Go.Q.S
