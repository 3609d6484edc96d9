/- The functions of this seat, as that machine runs them. -/
import Derived.Test.YtmahppdampmpfaaZ1
set_option linter.unusedVariables false
set_option linter.unusedSimpArgs false
namespace Go.Q.S
open Go Go.Q Go.Proofs
theorem q61 {rs rs' : Rows} (hl : rs.length ≤ maxLen) (hl' : rs'.length ≤ maxLen) (hW : WRs H rs L3) (hW' : WRs H rs' L3) : rn ⟨61, 0, 0⟩ [.sl rs, .sl rs'] = some (0, [.bool (eqb rs rs')]) := by
  show run H Try.prog ⟨61, 0, 0⟩ _ = _
  rw [run_eq, g61_0_0_eq, g61_0_0]
  by_cases hll : rs'.length = rs.length
  · have hf := eq_loop (F := fun i => rn ⟨61, 0, 1⟩ [.sl rs, .sl rs', .int (i : Int)]) (A := some (0, [])) (B := some (1, [])) hll (fun i hi => ?_) ?_
    · simp only [rn, Int.natCast_zero] at hf
      rw [decide_eq_true (by omega : (rs.length : Int) = (rs'.length : Int))]
      simp only [Bool.not_true, cond_false]
      rw [hf]
      cases eqb rs rs' <;> rfl
    · have hi2 : i < rs'.length := by omega
      have hw := WRs_mem hW (List.getElem_mem hi)
      have hw' := WRs_mem hW' (List.getElem_mem hi2)
      obtain ⟨a0, hr⟩ := wl3 hw
      obtain ⟨y0, hr'⟩ := wl3 hw'
      simp only [rn]
      rw [run_eq, g61_0_1_eq, g61_0_1]
      have hx1 : ((i : Int) < (rs.length : Int)) := by omega
      simp only [Int.toNat_natCast, rowAt_eq hi, rowAt_eq hi2, hr, hr', inbN, hi, hi2, hx1, decide_true, cond_true, Int.ofNat_lt, nth, List.getD_cons_zero, List.getD_cons_succ, D.I, D.S, D.L, D.B, wrap_succ hi hl]
      have hq : eqb [D.int a0] [D.int y0] = ((decide (a0 = y0))) := by simp only [eqb_cons, eqb_nil, eqb_int, eqb_str, eqb_bool, eqb_sl, Bool.and_true, Bool.and_assoc]
      rw [hq]
      all_goals (cases (decide (a0 = y0)) <;> rfl)
    · simp only [rn]
      rw [run_eq, g61_0_1_eq, g61_0_1]
      simp
  · rw [decide_eq_false (by omega : ¬ (rs.length : Int) = (rs'.length : Int)), eqb_len (fun h => hll h.symm)]
    rfl
theorem q52 : ∀ (N : Nat) (ds es : List D), SizeOf.sizeOf ds < N → WL H ds L31 → WL H es L31 → rn ⟨52, 0, 0⟩ (ds ++ es) = some (0, [.bool (eqb ds es)])
  | 0, ds, es, hN, _, _ => absurd hN (Nat.not_lt_zero _)
  | N + 1, ds, es, hN, h, h' => by
    have h0 := h
    have h0' := h'
    obtain ⟨a0, a1, a2, a3, rfl, b2, b3, c3⟩ := wl31 h
    obtain ⟨y0, y1, y2, y3, rfl, by2, by3, cy3⟩ := wl31 h'
    show run H Try.prog ⟨52, 0, 0⟩ [D.int a0, D.int a1, D.str a2, D.sl a3, D.int y0, D.int y1, D.str y2, D.sl y3] = _
    rw [run_eq, g52_0_0_eq, g52_0_0]
    have hl : (bif !decide ((a3.length : Int) = y3.length) then (some (0, [.bool false]) : R) else (run H Try.prog ⟨52, 0, 1⟩ [.int 0, .int a0, .int a1, .str a2, .sl a3, .int y0, .int y1, .str y2, .sl y3]).bind fun r1 => bif Nat.beq r1.1 0 then some (0, [.bool true]) else bif Nat.beq r1.1 1 then some (0, [.bool false]) else none) = some (0, [.bool (eqb a3 y3)]) := by
      by_cases hll : y3.length = a3.length
      · have hf := eq_loop (F := fun i => rn ⟨52, 0, 1⟩ [.int (i : Int), .int a0, .int a1, .str a2, .sl a3, .int y0, .int y1, .str y2, .sl y3]) (A := some (0, [])) (B := some (1, [])) hll (fun i hi => ?_) ?_
        · simp only [rn, Int.natCast_zero] at hf
          rw [decide_eq_true (by omega : (a3.length : Int) = (y3.length : Int))]
          simp only [Bool.not_true, cond_false]
          rw [hf]
          cases eqb a3 y3 <;> rfl
        · have hi2 : i < y3.length := by omega
          have hw := WRs_mem c3 (List.getElem_mem hi)
          have hw' := WRs_mem cy3 (List.getElem_mem hi2)
          have hs := size_row (List.getElem_mem hi)
          have hc := q52 N _ _ (by simp only [List.cons.sizeOf_spec, D.sl.sizeOf_spec] at hN; omega) hw hw'
          obtain ⟨u0, u1, u2, u3, hr, bu2, bu3, cu3⟩ := wl31 hw
          obtain ⟨v0, v1, v2, v3, hr', bv2, bv3, cv3⟩ := wl31 hw'
          rw [hr, hr'] at hc
          simp only [List.cons_append, List.nil_append, rn] at hc
          simp only [rn]
          rw [run_eq, g52_0_1_eq, g52_0_1]
          simp only [Int.toNat_natCast, rowAt_eq hi, rowAt_eq hi2, hr, hr', inbN, hi, hi2, decide_true, cond_true, Int.ofNat_lt, nth, List.getD_cons_zero, List.getD_cons_succ, D.I, D.S, D.L, D.B, wrap_succ hi b3]
          simp only [hc, Option.bind_some, nth, List.getD_cons_zero, List.getD_cons_succ, D.I, D.S, D.L, D.B]
          cases (eqb [D.int u0, D.int u1, D.str u2, D.sl u3] [D.int v0, D.int v1, D.str v2, D.sl v3]) <;> rfl
        · simp only [rn]
          rw [run_eq, g52_0_1_eq, g52_0_1]
          simp
      · rw [decide_eq_false (by omega : ¬ (a3.length : Int) = (y3.length : Int)), eqb_len (fun h => hll h.symm)]
        rfl
    rw [hl]
    have hq : eqb [D.int a0, D.int a1, D.str a2, D.sl a3] [D.int y0, D.int y1, D.str y2, D.sl y3] = ((decide (a0 = y0)) && (decide (a1 = y1)) && (decide (a2 = y2)) && (eqb a3 y3)) := by simp only [eqb_cons, eqb_nil, eqb_int, eqb_str, eqb_bool, eqb_sl, Bool.and_true, Bool.and_assoc]
    rw [hq]
    all_goals (cases (decide (a0 = y0)) <;> cases (decide (a1 = y1)) <;> cases (decide (a2 = y2)) <;> cases (eqb a3 y3) <;> rfl)
theorem q62 {rs rs' : Rows} (hl : rs.length ≤ maxLen) (hl' : rs'.length ≤ maxLen) (hW : WRs H rs L109) (hW' : WRs H rs' L109) : rn ⟨62, 0, 0⟩ [.sl rs, .sl rs'] = some (0, [.bool (eqb rs rs')]) := by
  show run H Try.prog ⟨62, 0, 0⟩ _ = _
  rw [run_eq, g62_0_0_eq, g62_0_0]
  by_cases hll : rs'.length = rs.length
  · have hf := eq_loop (F := fun i => rn ⟨62, 0, 1⟩ [.sl rs, .sl rs', .int (i : Int)]) (A := some (0, [])) (B := some (1, [])) hll (fun i hi => ?_) ?_
    · simp only [rn, Int.natCast_zero] at hf
      rw [decide_eq_true (by omega : (rs.length : Int) = (rs'.length : Int))]
      simp only [Bool.not_true, cond_false]
      rw [hf]
      cases eqb rs rs' <;> rfl
    · have hi2 : i < rs'.length := by omega
      have hw := WRs_mem hW (List.getElem_mem hi)
      have hw' := WRs_mem hW' (List.getElem_mem hi2)
      obtain ⟨a0, a1, a2, a3, a4, hr, b0, b3, b4, c4⟩ := wl109 hw
      obtain ⟨y0, y1, y2, y3, y4, hr', by0, by3, by4, cy4⟩ := wl109 hw'
      rw [hr] at hw
      rw [hr'] at hw'
      have w1 : WL H [D.int a1, D.int a2, D.str a3, D.sl a4] L31 := WL.part 1 4 hw
      have w1p : WL H [D.int y1, D.int y2, D.str y3, D.sl y4] L31 := WL.part 1 4 hw'
      have e1 := q52 _ _ _ (Nat.lt_succ_self _) w1 w1p
      simp only [List.cons_append, List.nil_append] at e1
      simp only [rn] at e1
      simp only [rn]
      rw [run_eq, g62_0_1_eq, g62_0_1]
      have hx1 : ((i : Int) < (rs.length : Int)) := by omega
      simp only [Int.toNat_natCast, rowAt_eq hi, rowAt_eq hi2, hr, hr', inbN, hi, hi2, hx1, decide_true, cond_true, Int.ofNat_lt, nth, List.getD_cons_zero, List.getD_cons_succ, D.I, D.S, D.L, D.B, wrap_succ hi hl]
      simp only [e1, Option.bind_some, nth, List.getD_cons_zero, List.getD_cons_succ, D.I, D.S, D.L, D.B]
      have hq : eqb [D.str a0, D.int a1, D.int a2, D.str a3, D.sl a4] [D.str y0, D.int y1, D.int y2, D.str y3, D.sl y4] = ((decide (a0 = y0)) && (eqb [D.int a1, D.int a2, D.str a3, D.sl a4] [D.int y1, D.int y2, D.str y3, D.sl y4])) := by simp only [eqb_cons, eqb_nil, eqb_int, eqb_str, eqb_bool, eqb_sl, Bool.and_true, Bool.and_assoc]
      rw [hq]
      all_goals (cases (decide (a0 = y0)) <;> cases (eqb [D.int a1, D.int a2, D.str a3, D.sl a4] [D.int y1, D.int y2, D.str y3, D.sl y4]) <;> rfl)
    · simp only [rn]
      rw [run_eq, g62_0_1_eq, g62_0_1]
      simp
  · rw [decide_eq_false (by omega : ¬ (rs.length : Int) = (rs'.length : Int)), eqb_len (fun h => hll h.symm)]
    rfl
theorem q25l {rs rs' : Rows} (hl : rs.length ≤ maxLen) (hl' : rs'.length ≤ maxLen) (hW : WRs H rs L95) (hW' : WRs H rs' L95) : rn ⟨25, 0, 0⟩ [.sl rs, .sl rs'] = some (0, [.bool (eqb rs rs')]) := by
  show run H Try.prog ⟨25, 0, 0⟩ _ = _
  rw [run_eq, g25_0_0_eq, g25_0_0]
  by_cases hll : rs'.length = rs.length
  · have hf := eq_loop (F := fun i => rn ⟨25, 0, 1⟩ [.int (i : Int), .sl rs, .sl rs']) (A := some (0, [])) (B := some (1, [])) hll (fun i hi => ?_) ?_
    · simp only [rn, Int.natCast_zero] at hf
      rw [decide_eq_true (by omega : (rs.length : Int) = (rs'.length : Int))]
      simp only [Bool.not_true, cond_false]
      rw [hf]
      cases eqb rs rs' <;> rfl
    · have hi2 : i < rs'.length := by omega
      have hw := WRs_mem hW (List.getElem_mem hi)
      have hw' := WRs_mem hW' (List.getElem_mem hi2)
      obtain ⟨a0, a1, a2, a3, hr, b1, c1, b3, c3⟩ := wl95 hw
      obtain ⟨y0, y1, y2, y3, hr', by1, cy1, by3, cy3⟩ := wl95 hw'
      rw [hr] at hw
      rw [hr'] at hw'
      have e1 := q61 b1 by1 c1 cy1
      simp only [rn] at e1
      have e3 := q62 b3 by3 c3 cy3
      simp only [rn] at e3
      simp only [rn]
      rw [run_eq, g25_0_1_eq, g25_0_1]
      have hx1 : ((i : Int) < (rs.length : Int)) := by omega
      simp only [Int.toNat_natCast, rowAt_eq hi, rowAt_eq hi2, hr, hr', inbN, hi, hi2, hx1, decide_true, cond_true, Int.ofNat_lt, nth, List.getD_cons_zero, List.getD_cons_succ, D.I, D.S, D.L, D.B, wrap_succ hi hl]
      simp only [e1, e3, Option.bind_some, nth, List.getD_cons_zero, List.getD_cons_succ, D.I, D.S, D.L, D.B]
      have hq : eqb [D.int a0, D.sl a1, D.int a2, D.sl a3] [D.int y0, D.sl y1, D.int y2, D.sl y3] = ((decide (a0 = y0)) && (eqb a1 y1) && (decide (a2 = y2)) && (eqb a3 y3)) := by simp only [eqb_cons, eqb_nil, eqb_int, eqb_str, eqb_bool, eqb_sl, Bool.and_true, Bool.and_assoc]
      rw [hq]
      all_goals (cases (decide (a0 = y0)) <;> cases (eqb a1 y1) <;> cases (decide (a2 = y2)) <;> cases (eqb a3 y3) <;> rfl)
    · simp only [rn]
      rw [run_eq, g25_0_1_eq, g25_0_1]
      simp
  · rw [decide_eq_false (by omega : ¬ (rs.length : Int) = (rs'.length : Int)), eqb_len (fun h => hll h.symm)]
    rfl
theorem q25 {ds es : List D} (h : WL H ds L53) (h' : WL H es L53) : rn ⟨25, 0, 0⟩ (ds ++ es) = some (0, [.bool (eqb ds es)]) := by
  obtain ⟨a0, rfl, b0, c0⟩ := wl53 h
  obtain ⟨y0, rfl, by0, cy0⟩ := wl53 h'
  have := q25l b0 by0 c0 cy0
  simp only [eqb_cons, eqb_nil, eqb_sl, Bool.and_true]
  exact this
theorem q92 {rs rs' : Rows} (hl : rs.length ≤ maxLen) (hl' : rs'.length ≤ maxLen) (hW : WRs H rs L3) (hW' : WRs H rs' L3) : rn ⟨92, 0, 0⟩ [.sl rs, .sl rs'] = some (0, [.bool (eqb rs rs')]) := by
  show run H Try.prog ⟨92, 0, 0⟩ _ = _
  rw [run_eq, g92_0_0_eq, g92_0_0]
  by_cases hll : rs'.length = rs.length
  · have hf := eq_loop (F := fun i => rn ⟨92, 0, 1⟩ [.sl rs, .sl rs', .int (rs).length, .int (i : Int)]) (A := some (0, [])) (B := some (1, [])) hll (fun i hi => ?_) ?_
    · simp only [rn, Int.natCast_zero] at hf
      rw [decide_eq_true (by omega : (rs.length : Int) = (rs'.length : Int))]
      simp only [Bool.not_true, cond_false]
      rw [hf]
      cases eqb rs rs' <;> rfl
    · have hi2 : i < rs'.length := by omega
      have hw := WRs_mem hW (List.getElem_mem hi)
      have hw' := WRs_mem hW' (List.getElem_mem hi2)
      obtain ⟨a0, hr⟩ := wl3 hw
      obtain ⟨y0, hr'⟩ := wl3 hw'
      simp only [rn]
      rw [run_eq, g92_0_1_eq, g92_0_1]
      have hx1 : ((i : Int) < (rs.length : Int)) := by omega
      simp only [Int.toNat_natCast, rowAt_eq hi, rowAt_eq hi2, hr, hr', inbN, hi, hi2, hx1, decide_true, cond_true, Int.ofNat_lt, nth, List.getD_cons_zero, List.getD_cons_succ, D.I, D.S, D.L, D.B, wrap_succ hi hl]
      have hq : eqb [D.int a0] [D.int y0] = ((decide (a0 = y0))) := by simp only [eqb_cons, eqb_nil, eqb_int, eqb_str, eqb_bool, eqb_sl, Bool.and_true, Bool.and_assoc]
      rw [hq]
      all_goals (cases (decide (a0 = y0)) <;> rfl)
    · simp only [rn]
      rw [run_eq, g92_0_1_eq, g92_0_1]
      simp
  · rw [decide_eq_false (by omega : ¬ (rs.length : Int) = (rs'.length : Int)), eqb_len (fun h => hll h.symm)]
    rfl
theorem q88 {rs rs' : Rows} (hl : rs.length ≤ maxLen) (hl' : rs'.length ≤ maxLen) (hW : WRs H rs L31) (hW' : WRs H rs' L31) (hel : ∀ r r', r ∈ rs → r' ∈ rs' → rn ⟨56, 0, 0⟩ (r ++ r') = some (0, [.bool (eqb r r')])) : rn ⟨88, 0, 0⟩ [.sl rs, .sl rs'] = some (0, [.bool (eqb rs rs')]) := by
  show run H Try.prog ⟨88, 0, 0⟩ _ = _
  rw [run_eq, g88_0_0_eq, g88_0_0]
  by_cases hll : rs'.length = rs.length
  · have hf := eq_loop (F := fun i => rn ⟨88, 0, 1⟩ [.sl rs', .sl rs, .int (rs).length, .int (i : Int)]) (A := some (0, [])) (B := some (1, [])) hll (fun i hi => ?_) ?_
    · simp only [rn, Int.natCast_zero] at hf
      rw [decide_eq_true (by omega : (rs.length : Int) = (rs'.length : Int))]
      simp only [Bool.not_true, cond_false]
      rw [hf]
      cases eqb rs rs' <;> rfl
    · have hi2 : i < rs'.length := by omega
      have hw := WRs_mem hW (List.getElem_mem hi)
      have hw' := WRs_mem hW' (List.getElem_mem hi2)
      obtain ⟨a0, a1, a2, a3, hr, b2, b3, c3⟩ := wl31 hw
      obtain ⟨y0, y1, y2, y3, hr', by2, by3, cy3⟩ := wl31 hw'
      have hc := hel _ _ (List.getElem_mem hi) (List.getElem_mem hi2)
      rw [hr, hr'] at hc
      simp only [List.cons_append, List.nil_append] at hc
      simp only [rn] at hc
      simp only [rn]
      rw [run_eq, g88_0_1_eq, g88_0_1]
      have hx1 : ((i : Int) < (rs.length : Int)) := by omega
      simp only [Int.toNat_natCast, rowAt_eq hi, rowAt_eq hi2, hr, hr', inbN, hi, hi2, hx1, decide_true, cond_true, Int.ofNat_lt, nth, List.getD_cons_zero, List.getD_cons_succ, D.I, D.S, D.L, D.B, wrap_succ hi hl]
      simp only [hc, Option.bind_some, nth, List.getD_cons_zero, List.getD_cons_succ, D.I, D.S, D.L, D.B]
      cases (eqb [D.int a0, D.int a1, D.str a2, D.sl a3] [D.int y0, D.int y1, D.str y2, D.sl y3]) <;> rfl
    · simp only [rn]
      rw [run_eq, g88_0_1_eq, g88_0_1]
      simp
  · rw [decide_eq_false (by omega : ¬ (rs.length : Int) = (rs'.length : Int)), eqb_len (fun h => hll h.symm)]
    rfl
theorem q56 : ∀ (N : Nat) (ds es : List D), SizeOf.sizeOf ds < N → WL H ds L31 → WL H es L31 → rn ⟨56, 0, 0⟩ (ds ++ es) = some (0, [.bool (eqb ds es)])
  | 0, ds, es, hN, _, _ => absurd hN (Nat.not_lt_zero _)
  | N + 1, ds, es, hN, h, h' => by
    have h0 := h
    have h0' := h'
    obtain ⟨a0, a1, a2, a3, rfl, b2, b3, c3⟩ := wl31 h
    obtain ⟨y0, y1, y2, y3, rfl, by2, by3, cy3⟩ := wl31 h'
    show run H Try.prog ⟨56, 0, 0⟩ [D.int a0, D.int a1, D.str a2, D.sl a3, D.int y0, D.int y1, D.str y2, D.sl y3] = _
    rw [run_eq, g56_0_0_eq, g56_0_0]
    have e3 := q88 b3 by3 c3 cy3 (fun r r' hr hr' => q56 N r r' (by have h1 := size_row hr; simp only [List.cons.sizeOf_spec, D.sl.sizeOf_spec] at hN; omega) (WRs_mem c3 hr) (WRs_mem cy3 hr'))
    simp only [rn] at e3
    simp only [e3, Option.bind_some, nth, List.getD_cons_zero, List.getD_cons_succ, D.I, D.S, D.L, D.B]
    have hq : eqb [D.int a0, D.int a1, D.str a2, D.sl a3] [D.int y0, D.int y1, D.str y2, D.sl y3] = ((decide (a0 = y0)) && (decide (a1 = y1)) && (decide (a2 = y2)) && (eqb a3 y3)) := by simp only [eqb_cons, eqb_nil, eqb_int, eqb_str, eqb_bool, eqb_sl, Bool.and_true, Bool.and_assoc]
    rw [hq]
    all_goals (cases (decide (a0 = y0)) <;> cases (decide (a1 = y1)) <;> cases (decide (a2 = y2)) <;> cases (eqb a3 y3) <;> rfl)
theorem q94 {ds es : List D} (h : WL H ds L109) (h' : WL H es L109) : rn ⟨94, 0, 0⟩ (ds ++ es) = some (0, [.bool (eqb ds es)]) := by
  have h0 := h
  have h0' := h'
  obtain ⟨a0, a1, a2, a3, a4, rfl, b0, b3, b4, c4⟩ := wl109 h
  obtain ⟨y0, y1, y2, y3, y4, rfl, by0, by3, by4, cy4⟩ := wl109 h'
  show run H Try.prog ⟨94, 0, 0⟩ [D.str a0, D.int a1, D.int a2, D.str a3, D.sl a4, D.str y0, D.int y1, D.int y2, D.str y3, D.sl y4] = _
  rw [run_eq, g94_0_0_eq, g94_0_0]
  have w1 : WL H [D.int a1, D.int a2, D.str a3, D.sl a4] L31 := WL.part 1 4 h0
  have w1p : WL H [D.int y1, D.int y2, D.str y3, D.sl y4] L31 := WL.part 1 4 h0'
  have e1 := q56 _ _ _ (Nat.lt_succ_self _) w1 w1p
  simp only [List.cons_append, List.nil_append] at e1
  simp only [rn] at e1
  simp only [e1, Option.bind_some, nth, List.getD_cons_zero, List.getD_cons_succ, D.I, D.S, D.L, D.B]
  have hq : eqb [D.str a0, D.int a1, D.int a2, D.str a3, D.sl a4] [D.str y0, D.int y1, D.int y2, D.str y3, D.sl y4] = ((decide (a0 = y0)) && (eqb [D.int a1, D.int a2, D.str a3, D.sl a4] [D.int y1, D.int y2, D.str y3, D.sl y4])) := by simp only [eqb_cons, eqb_nil, eqb_int, eqb_str, eqb_bool, eqb_sl, Bool.and_true, Bool.and_assoc]
  rw [hq]
  all_goals (cases (decide (a0 = y0)) <;> cases (eqb [D.int a1, D.int a2, D.str a3, D.sl a4] [D.int y1, D.int y2, D.str y3, D.sl y4]) <;> rfl)
theorem q93 {rs rs' : Rows} (hl : rs.length ≤ maxLen) (hl' : rs'.length ≤ maxLen) (hW : WRs H rs L109) (hW' : WRs H rs' L109) : rn ⟨93, 0, 0⟩ [.sl rs, .sl rs'] = some (0, [.bool (eqb rs rs')]) := by
  show run H Try.prog ⟨93, 0, 0⟩ _ = _
  rw [run_eq, g93_0_0_eq, g93_0_0]
  by_cases hll : rs'.length = rs.length
  · have hf := eq_loop (F := fun i => rn ⟨93, 0, 1⟩ [.sl rs', .sl rs, .int (rs).length, .int (i : Int)]) (A := some (0, [])) (B := some (1, [])) hll (fun i hi => ?_) ?_
    · simp only [rn, Int.natCast_zero] at hf
      rw [decide_eq_true (by omega : (rs.length : Int) = (rs'.length : Int))]
      simp only [Bool.not_true, cond_false]
      rw [hf]
      cases eqb rs rs' <;> rfl
    · have hi2 : i < rs'.length := by omega
      have hw := WRs_mem hW (List.getElem_mem hi)
      have hw' := WRs_mem hW' (List.getElem_mem hi2)
      obtain ⟨a0, a1, a2, a3, a4, hr, b0, b3, b4, c4⟩ := wl109 hw
      obtain ⟨y0, y1, y2, y3, y4, hr', by0, by3, by4, cy4⟩ := wl109 hw'
      have hc := q94 hw hw'
      rw [hr, hr'] at hc
      simp only [List.cons_append, List.nil_append] at hc
      simp only [rn] at hc
      simp only [rn]
      rw [run_eq, g93_0_1_eq, g93_0_1]
      have hx1 : ((i : Int) < (rs.length : Int)) := by omega
      simp only [Int.toNat_natCast, rowAt_eq hi, rowAt_eq hi2, hr, hr', inbN, hi, hi2, hx1, decide_true, cond_true, Int.ofNat_lt, nth, List.getD_cons_zero, List.getD_cons_succ, D.I, D.S, D.L, D.B, wrap_succ hi hl]
      simp only [hc, Option.bind_some, nth, List.getD_cons_zero, List.getD_cons_succ, D.I, D.S, D.L, D.B]
      cases (eqb [D.str a0, D.int a1, D.int a2, D.str a3, D.sl a4] [D.str y0, D.int y1, D.int y2, D.str y3, D.sl y4]) <;> rfl
    · simp only [rn]
      rw [run_eq, g93_0_1_eq, g93_0_1]
      simp
  · rw [decide_eq_false (by omega : ¬ (rs.length : Int) = (rs'.length : Int)), eqb_len (fun h => hll h.symm)]
    rfl
theorem q65 {ds es : List D} (h : WL H ds L95) (h' : WL H es L95) : rn ⟨65, 0, 0⟩ (ds ++ es) = some (0, [.bool (eqb ds es)]) := by
  have h0 := h
  have h0' := h'
  obtain ⟨a0, a1, a2, a3, rfl, b1, c1, b3, c3⟩ := wl95 h
  obtain ⟨y0, y1, y2, y3, rfl, by1, cy1, by3, cy3⟩ := wl95 h'
  show run H Try.prog ⟨65, 0, 0⟩ [D.int a0, D.sl a1, D.int a2, D.sl a3, D.int y0, D.sl y1, D.int y2, D.sl y3] = _
  rw [run_eq, g65_0_0_eq, g65_0_0]
  have e1 := q92 b1 by1 c1 cy1
  simp only [rn] at e1
  have e3 := q93 b3 by3 c3 cy3
  simp only [rn] at e3
  simp only [e1, e3, Option.bind_some, nth, List.getD_cons_zero, List.getD_cons_succ, D.I, D.S, D.L, D.B]
  have hq : eqb [D.int a0, D.sl a1, D.int a2, D.sl a3] [D.int y0, D.sl y1, D.int y2, D.sl y3] = ((decide (a0 = y0)) && (eqb a1 y1) && (decide (a2 = y2)) && (eqb a3 y3)) := by simp only [eqb_cons, eqb_nil, eqb_int, eqb_str, eqb_bool, eqb_sl, Bool.and_true, Bool.and_assoc]
  rw [hq]
  all_goals (cases (decide (a0 = y0)) <;> cases (eqb a1 y1) <;> cases (decide (a2 = y2)) <;> cases (eqb a3 y3) <;> rfl)
theorem q64 {rs rs' : Rows} (hl : rs.length ≤ maxLen) (hl' : rs'.length ≤ maxLen) (hW : WRs H rs L95) (hW' : WRs H rs' L95) : rn ⟨64, 0, 0⟩ [.sl rs, .sl rs'] = some (0, [.bool (eqb rs rs')]) := by
  show run H Try.prog ⟨64, 0, 0⟩ _ = _
  rw [run_eq, g64_0_0_eq, g64_0_0]
  by_cases hll : rs'.length = rs.length
  · have hf := eq_loop (F := fun i => rn ⟨64, 0, 1⟩ [.sl rs', .sl rs, .int (rs).length, .int (i : Int)]) (A := some (0, [])) (B := some (1, [])) hll (fun i hi => ?_) ?_
    · simp only [rn, Int.natCast_zero] at hf
      rw [decide_eq_true (by omega : (rs.length : Int) = (rs'.length : Int))]
      simp only [Bool.not_true, cond_false]
      rw [hf]
      cases eqb rs rs' <;> rfl
    · have hi2 : i < rs'.length := by omega
      have hw := WRs_mem hW (List.getElem_mem hi)
      have hw' := WRs_mem hW' (List.getElem_mem hi2)
      obtain ⟨a0, a1, a2, a3, hr, b1, c1, b3, c3⟩ := wl95 hw
      obtain ⟨y0, y1, y2, y3, hr', by1, cy1, by3, cy3⟩ := wl95 hw'
      have hc := q65 hw hw'
      rw [hr, hr'] at hc
      simp only [List.cons_append, List.nil_append] at hc
      simp only [rn] at hc
      simp only [rn]
      rw [run_eq, g64_0_1_eq, g64_0_1]
      have hx1 : ((i : Int) < (rs.length : Int)) := by omega
      simp only [Int.toNat_natCast, rowAt_eq hi, rowAt_eq hi2, hr, hr', inbN, hi, hi2, hx1, decide_true, cond_true, Int.ofNat_lt, nth, List.getD_cons_zero, List.getD_cons_succ, D.I, D.S, D.L, D.B, wrap_succ hi hl]
      simp only [hc, Option.bind_some, nth, List.getD_cons_zero, List.getD_cons_succ, D.I, D.S, D.L, D.B]
      cases (eqb [D.int a0, D.sl a1, D.int a2, D.sl a3] [D.int y0, D.sl y1, D.int y2, D.sl y3]) <;> rfl
    · simp only [rn]
      rw [run_eq, g64_0_1_eq, g64_0_1]
      simp
  · rw [decide_eq_false (by omega : ¬ (rs.length : Int) = (rs'.length : Int)), eqb_len (fun h => hll h.symm)]
    rfl
theorem q27 {ds es : List D} (h : WL H ds L53) (h' : WL H es L53) : rn ⟨27, 0, 0⟩ (ds ++ es) = some (0, [.bool (eqb ds es)]) := by
  have h0 := h
  have h0' := h'
  obtain ⟨a0, rfl, b0, c0⟩ := wl53 h
  obtain ⟨y0, rfl, by0, cy0⟩ := wl53 h'
  show run H Try.prog ⟨27, 0, 0⟩ [D.sl a0, D.sl y0] = _
  rw [run_eq, g27_0_0_eq, g27_0_0]
  have e0 := q64 b0 by0 c0 cy0
  simp only [rn] at e0
  simp only [e0, Option.bind_some, nth, List.getD_cons_zero, List.getD_cons_succ, D.I, D.S, D.L, D.B]
  have hq : eqb [D.sl a0] [D.sl y0] = ((eqb a0 y0)) := by simp only [eqb_cons, eqb_nil, eqb_int, eqb_str, eqb_bool, eqb_sl, Bool.and_true, Bool.and_assoc]
  rw [hq]
  all_goals (cases (eqb a0 y0) <;> rfl)
theorem q38 {ds es : List D} (h : WL H ds L74) (h' : WL H es L74) : rn ⟨38, 0, 0⟩ (ds ++ es) = some (0, [.bool (eqb ds es)]) := by
  have h0 := h
  have h0' := h'
  obtain ⟨a0, a1, a2, a3, rfl, b1, c1⟩ := wl74 h
  obtain ⟨y0, y1, y2, y3, rfl, by1, cy1⟩ := wl74 h'
  show run H Try.prog ⟨38, 0, 0⟩ [D.int a0, D.sl a1, D.int a2, D.int a3, D.int y0, D.sl y1, D.int y2, D.int y3] = _
  rw [run_eq, g38_0_0_eq, g38_0_0]
  have hl : (bif !decide ((a1.length : Int) = y1.length) then (some (0, [.bool false]) : R) else (run H Try.prog ⟨38, 0, 1⟩ [.int 0, .int a0, .sl a1, .int a2, .int a3, .int y0, .sl y1, .int y2, .int y3]).bind fun r1 => bif Nat.beq r1.1 0 then some (0, [.bool true]) else bif Nat.beq r1.1 1 then some (0, [.bool false]) else none) = some (0, [.bool (eqb a1 y1)]) := by
    by_cases hll : y1.length = a1.length
    · have hf := eq_loop (F := fun i => rn ⟨38, 0, 1⟩ [.int (i : Int), .int a0, .sl a1, .int a2, .int a3, .int y0, .sl y1, .int y2, .int y3]) (A := some (0, [])) (B := some (1, [])) hll (fun i hi => ?_) ?_
      · simp only [rn, Int.natCast_zero] at hf
        rw [decide_eq_true (by omega : (a1.length : Int) = (y1.length : Int))]
        simp only [Bool.not_true, cond_false]
        rw [hf]
        cases eqb a1 y1 <;> rfl
      · have hi2 : i < y1.length := by omega
        have hw := WRs_mem c1 (List.getElem_mem hi)
        have hw' := WRs_mem cy1 (List.getElem_mem hi2)
        have hc := q25 hw hw'
        obtain ⟨u0, hr, bu0, cu0⟩ := wl53 hw
        obtain ⟨v0, hr', bv0, cv0⟩ := wl53 hw'
        rw [hr, hr'] at hc
        simp only [List.cons_append, List.nil_append, rn] at hc
        simp only [rn]
        rw [run_eq, g38_0_1_eq, g38_0_1]
        simp only [Int.toNat_natCast, rowAt_eq hi, rowAt_eq hi2, hr, hr', inbN, hi, hi2, decide_true, cond_true, Int.ofNat_lt, nth, List.getD_cons_zero, List.getD_cons_succ, D.I, D.S, D.L, D.B, wrap_succ hi b1]
        simp only [hc, Option.bind_some, nth, List.getD_cons_zero, List.getD_cons_succ, D.I, D.S, D.L, D.B]
        cases (eqb [D.sl u0] [D.sl v0]) <;> rfl
      · simp only [rn]
        rw [run_eq, g38_0_1_eq, g38_0_1]
        simp
    · rw [decide_eq_false (by omega : ¬ (a1.length : Int) = (y1.length : Int)), eqb_len (fun h => hll h.symm)]
      rfl
  rw [hl]
  have hq : eqb [D.int a0, D.sl a1, D.int a2, D.int a3] [D.int y0, D.sl y1, D.int y2, D.int y3] = ((decide (a0 = y0)) && (eqb a1 y1) && (decide (a2 = y2)) && (decide (a3 = y3))) := by simp only [eqb_cons, eqb_nil, eqb_int, eqb_str, eqb_bool, eqb_sl, Bool.and_true, Bool.and_assoc]
  rw [hq]
  all_goals (cases (decide (a0 = y0)) <;> cases (eqb a1 y1) <;> cases (decide (a2 = y2)) <;> cases (decide (a3 = y3)) <;> rfl)
theorem q82 {rs rs' : Rows} (hl : rs.length ≤ maxLen) (hl' : rs'.length ≤ maxLen) (hW : WRs H rs L53) (hW' : WRs H rs' L53) : rn ⟨82, 0, 0⟩ [.sl rs, .sl rs'] = some (0, [.bool (eqb rs rs')]) := by
  show run H Try.prog ⟨82, 0, 0⟩ _ = _
  rw [run_eq, g82_0_0_eq, g82_0_0]
  by_cases hll : rs'.length = rs.length
  · have hf := eq_loop (F := fun i => rn ⟨82, 0, 1⟩ [.sl rs', .sl rs, .int (rs).length, .int (i : Int)]) (A := some (0, [])) (B := some (1, [])) hll (fun i hi => ?_) ?_
    · simp only [rn, Int.natCast_zero] at hf
      rw [decide_eq_true (by omega : (rs.length : Int) = (rs'.length : Int))]
      simp only [Bool.not_true, cond_false]
      rw [hf]
      cases eqb rs rs' <;> rfl
    · have hi2 : i < rs'.length := by omega
      have hw := WRs_mem hW (List.getElem_mem hi)
      have hw' := WRs_mem hW' (List.getElem_mem hi2)
      obtain ⟨a0, hr, b0, c0⟩ := wl53 hw
      obtain ⟨y0, hr', by0, cy0⟩ := wl53 hw'
      have hc := q27 hw hw'
      rw [hr, hr'] at hc
      simp only [List.cons_append, List.nil_append] at hc
      simp only [rn] at hc
      simp only [rn]
      rw [run_eq, g82_0_1_eq, g82_0_1]
      have hx1 : ((i : Int) < (rs.length : Int)) := by omega
      simp only [Int.toNat_natCast, rowAt_eq hi, rowAt_eq hi2, hr, hr', inbN, hi, hi2, hx1, decide_true, cond_true, Int.ofNat_lt, nth, List.getD_cons_zero, List.getD_cons_succ, D.I, D.S, D.L, D.B, wrap_succ hi hl]
      simp only [hc, Option.bind_some, nth, List.getD_cons_zero, List.getD_cons_succ, D.I, D.S, D.L, D.B]
      cases (eqb [D.sl a0] [D.sl y0]) <;> rfl
    · simp only [rn]
      rw [run_eq, g82_0_1_eq, g82_0_1]
      simp
  · rw [decide_eq_false (by omega : ¬ (rs.length : Int) = (rs'.length : Int)), eqb_len (fun h => hll h.symm)]
    rfl
theorem q40 {ds es : List D} (h : WL H ds L74) (h' : WL H es L74) : rn ⟨40, 0, 0⟩ (ds ++ es) = some (0, [.bool (eqb ds es)]) := by
  have h0 := h
  have h0' := h'
  obtain ⟨a0, a1, a2, a3, rfl, b1, c1⟩ := wl74 h
  obtain ⟨y0, y1, y2, y3, rfl, by1, cy1⟩ := wl74 h'
  show run H Try.prog ⟨40, 0, 0⟩ [D.int a0, D.sl a1, D.int a2, D.int a3, D.int y0, D.sl y1, D.int y2, D.int y3] = _
  rw [run_eq, g40_0_0_eq, g40_0_0]
  have e1 := q82 b1 by1 c1 cy1
  simp only [rn] at e1
  simp only [e1, Option.bind_some, nth, List.getD_cons_zero, List.getD_cons_succ, D.I, D.S, D.L, D.B]
  have hq : eqb [D.int a0, D.sl a1, D.int a2, D.int a3] [D.int y0, D.sl y1, D.int y2, D.int y3] = ((decide (a0 = y0)) && (eqb a1 y1) && (decide (a2 = y2)) && (decide (a3 = y3))) := by simp only [eqb_cons, eqb_nil, eqb_int, eqb_str, eqb_bool, eqb_sl, Bool.and_true, Bool.and_assoc]
  rw [hq]
  all_goals (cases (decide (a0 = y0)) <;> cases (eqb a1 y1) <;> cases (decide (a2 = y2)) <;> cases (decide (a3 = y3)) <;> rfl)
theorem q51 {rs rs' : Rows} (hl : rs.length ≤ maxLen) (hl' : rs'.length ≤ maxLen) (hW : WRs H rs L9) (hW' : WRs H rs' L9) : rn ⟨51, 0, 0⟩ [.sl rs, .sl rs'] = some (0, [.bool (eqb rs rs')]) := by
  show run H Try.prog ⟨51, 0, 0⟩ _ = _
  rw [run_eq, g51_0_0_eq, g51_0_0]
  by_cases hll : rs'.length = rs.length
  · have hf := eq_loop (F := fun i => rn ⟨51, 0, 1⟩ [.sl rs, .sl rs', .int (i : Int)]) (A := some (0, [])) (B := some (1, [])) hll (fun i hi => ?_) ?_
    · simp only [rn, Int.natCast_zero] at hf
      rw [decide_eq_true (by omega : (rs.length : Int) = (rs'.length : Int))]
      simp only [Bool.not_true, cond_false]
      rw [hf]
      cases eqb rs rs' <;> rfl
    · have hi2 : i < rs'.length := by omega
      have hw := WRs_mem hW (List.getElem_mem hi)
      have hw' := WRs_mem hW' (List.getElem_mem hi2)
      obtain ⟨a0, hr, b0⟩ := wl9 hw
      obtain ⟨y0, hr', by0⟩ := wl9 hw'
      simp only [rn]
      rw [run_eq, g51_0_1_eq, g51_0_1]
      have hx1 : ((i : Int) < (rs.length : Int)) := by omega
      simp only [Int.toNat_natCast, rowAt_eq hi, rowAt_eq hi2, hr, hr', inbN, hi, hi2, hx1, decide_true, cond_true, Int.ofNat_lt, nth, List.getD_cons_zero, List.getD_cons_succ, D.I, D.S, D.L, D.B, wrap_succ hi hl]
      have hq : eqb [D.str a0] [D.str y0] = ((decide (a0 = y0))) := by simp only [eqb_cons, eqb_nil, eqb_int, eqb_str, eqb_bool, eqb_sl, Bool.and_true, Bool.and_assoc]
      rw [hq]
      all_goals (cases (decide (a0 = y0)) <;> rfl)
    · simp only [rn]
      rw [run_eq, g51_0_1_eq, g51_0_1]
      simp
  · rw [decide_eq_false (by omega : ¬ (rs.length : Int) = (rs'.length : Int)), eqb_len (fun h => hll h.symm)]
    rfl
theorem q86 {ds es : List D} (h : WL H ds L90) (h' : WL H es L90) : rn ⟨86, 0, 0⟩ (ds ++ es) = some (0, [.bool (eqb ds es)]) := by
  have h0 := h
  have h0' := h'
  obtain ⟨a0, a1, a2, a3, a4, a5, a6, a7, a8, rfl, b3, b4, c4, b7, b8, c8⟩ := wl90 h
  obtain ⟨y0, y1, y2, y3, y4, y5, y6, y7, y8, rfl, by3, by4, cy4, by7, by8, cy8⟩ := wl90 h'
  show run H Try.prog ⟨86, 0, 0⟩ [D.int a0, D.int a1, D.int a2, D.str a3, D.sl a4, D.int a5, D.int a6, D.str a7, D.sl a8, D.int y0, D.int y1, D.int y2, D.str y3, D.sl y4, D.int y5, D.int y6, D.str y7, D.sl y8] = _
  rw [run_eq, g86_0_0_eq, g86_0_0]
  have w1 : WL H [D.int a1, D.int a2, D.str a3, D.sl a4] L31 := WL.part 1 4 h0
  have w1p : WL H [D.int y1, D.int y2, D.str y3, D.sl y4] L31 := WL.part 1 4 h0'
  have e1 := q52 _ _ _ (Nat.lt_succ_self _) w1 w1p
  simp only [List.cons_append, List.nil_append] at e1
  simp only [rn] at e1
  have w5 : WL H [D.int a5, D.int a6, D.str a7, D.sl a8] L31 := WL.part 5 4 h0
  have w5p : WL H [D.int y5, D.int y6, D.str y7, D.sl y8] L31 := WL.part 5 4 h0'
  have e5 := q52 _ _ _ (Nat.lt_succ_self _) w5 w5p
  simp only [List.cons_append, List.nil_append] at e5
  simp only [rn] at e5
  simp only [e1, e5, Option.bind_some, nth, List.getD_cons_zero, List.getD_cons_succ, D.I, D.S, D.L, D.B]
  have hq : eqb [D.int a0, D.int a1, D.int a2, D.str a3, D.sl a4, D.int a5, D.int a6, D.str a7, D.sl a8] [D.int y0, D.int y1, D.int y2, D.str y3, D.sl y4, D.int y5, D.int y6, D.str y7, D.sl y8] = ((decide (a0 = y0)) && (eqb [D.int a1, D.int a2, D.str a3, D.sl a4] [D.int y1, D.int y2, D.str y3, D.sl y4]) && (eqb [D.int a5, D.int a6, D.str a7, D.sl a8] [D.int y5, D.int y6, D.str y7, D.sl y8])) := by simp only [eqb_cons, eqb_nil, eqb_int, eqb_str, eqb_bool, eqb_sl, Bool.and_true, Bool.and_assoc]
  rw [hq]
  all_goals (cases (decide (a0 = y0)) <;> cases (eqb [D.int a1, D.int a2, D.str a3, D.sl a4] [D.int y1, D.int y2, D.str y3, D.sl y4]) <;> cases (eqb [D.int a5, D.int a6, D.str a7, D.sl a8] [D.int y5, D.int y6, D.str y7, D.sl y8]) <;> rfl)
theorem q53 {rs rs' : Rows} (hl : rs.length ≤ maxLen) (hl' : rs'.length ≤ maxLen) (hW : WRs H rs L90) (hW' : WRs H rs' L90) : rn ⟨53, 0, 0⟩ [.sl rs, .sl rs'] = some (0, [.bool (eqb rs rs')]) := by
  show run H Try.prog ⟨53, 0, 0⟩ _ = _
  rw [run_eq, g53_0_0_eq, g53_0_0]
  by_cases hll : rs'.length = rs.length
  · have hf := eq_loop (F := fun i => rn ⟨53, 0, 1⟩ [.sl rs, .sl rs', .int (i : Int)]) (A := some (0, [])) (B := some (1, [])) hll (fun i hi => ?_) ?_
    · simp only [rn, Int.natCast_zero] at hf
      rw [decide_eq_true (by omega : (rs.length : Int) = (rs'.length : Int))]
      simp only [Bool.not_true, cond_false]
      rw [hf]
      cases eqb rs rs' <;> rfl
    · have hi2 : i < rs'.length := by omega
      have hw := WRs_mem hW (List.getElem_mem hi)
      have hw' := WRs_mem hW' (List.getElem_mem hi2)
      obtain ⟨a0, a1, a2, a3, a4, a5, a6, a7, a8, hr, b3, b4, c4, b7, b8, c8⟩ := wl90 hw
      obtain ⟨y0, y1, y2, y3, y4, y5, y6, y7, y8, hr', by3, by4, cy4, by7, by8, cy8⟩ := wl90 hw'
      have hc := q86 hw hw'
      rw [hr, hr'] at hc
      simp only [List.cons_append, List.nil_append] at hc
      simp only [rn] at hc
      simp only [rn]
      rw [run_eq, g53_0_1_eq, g53_0_1]
      have hx1 : ((i : Int) < (rs.length : Int)) := by omega
      simp only [Int.toNat_natCast, rowAt_eq hi, rowAt_eq hi2, hr, hr', inbN, hi, hi2, hx1, decide_true, cond_true, Int.ofNat_lt, nth, List.getD_cons_zero, List.getD_cons_succ, D.I, D.S, D.L, D.B, wrap_succ hi hl]
      simp only [hc, Option.bind_some, nth, List.getD_cons_zero, List.getD_cons_succ, D.I, D.S, D.L, D.B]
      cases (eqb [D.int a0, D.int a1, D.int a2, D.str a3, D.sl a4, D.int a5, D.int a6, D.str a7, D.sl a8] [D.int y0, D.int y1, D.int y2, D.str y3, D.sl y4, D.int y5, D.int y6, D.str y7, D.sl y8]) <;> rfl
    · simp only [rn]
      rw [run_eq, g53_0_1_eq, g53_0_1]
      simp
  · rw [decide_eq_false (by omega : ¬ (rs.length : Int) = (rs'.length : Int)), eqb_len (fun h => hll h.symm)]
    rfl
theorem q20 {ds es : List D} (h : WL H ds L43) (h' : WL H es L43) : rn ⟨20, 0, 0⟩ (ds ++ es) = some (0, [.bool (eqb ds es)]) := by
  have h0 := h
  have h0' := h'
  obtain ⟨a0, a1, a2, a3, a4, a5, a6, a7, a8, a9, rfl, b0, c0, b3, b4, c4, b7, b8, c8, b9, c9⟩ := wl43 h
  obtain ⟨y0, y1, y2, y3, y4, y5, y6, y7, y8, y9, rfl, by0, cy0, by3, by4, cy4, by7, by8, cy8, by9, cy9⟩ := wl43 h'
  show run H Try.prog ⟨20, 0, 0⟩ [D.sl a0, D.int a1, D.int a2, D.str a3, D.sl a4, D.int a5, D.int a6, D.str a7, D.sl a8, D.sl a9, D.sl y0, D.int y1, D.int y2, D.str y3, D.sl y4, D.int y5, D.int y6, D.str y7, D.sl y8, D.sl y9] = _
  rw [run_eq, g20_0_0_eq, g20_0_0]
  have e0 := q51 b0 by0 c0 cy0
  simp only [rn] at e0
  have w1 : WL H [D.int a1, D.int a2, D.str a3, D.sl a4] L31 := WL.part 1 4 h0
  have w1p : WL H [D.int y1, D.int y2, D.str y3, D.sl y4] L31 := WL.part 1 4 h0'
  have e1 := q52 _ _ _ (Nat.lt_succ_self _) w1 w1p
  simp only [List.cons_append, List.nil_append] at e1
  simp only [rn] at e1
  have w5 : WL H [D.int a5, D.int a6, D.str a7, D.sl a8] L31 := WL.part 5 4 h0
  have w5p : WL H [D.int y5, D.int y6, D.str y7, D.sl y8] L31 := WL.part 5 4 h0'
  have e5 := q52 _ _ _ (Nat.lt_succ_self _) w5 w5p
  simp only [List.cons_append, List.nil_append] at e5
  simp only [rn] at e5
  have e9 := q53 b9 by9 c9 cy9
  simp only [rn] at e9
  simp only [e0, e1, e5, e9, Option.bind_some, nth, List.getD_cons_zero, List.getD_cons_succ, D.I, D.S, D.L, D.B]
  have hq : eqb [D.sl a0, D.int a1, D.int a2, D.str a3, D.sl a4, D.int a5, D.int a6, D.str a7, D.sl a8, D.sl a9] [D.sl y0, D.int y1, D.int y2, D.str y3, D.sl y4, D.int y5, D.int y6, D.str y7, D.sl y8, D.sl y9] = ((eqb a0 y0) && (eqb [D.int a1, D.int a2, D.str a3, D.sl a4] [D.int y1, D.int y2, D.str y3, D.sl y4]) && (eqb [D.int a5, D.int a6, D.str a7, D.sl a8] [D.int y5, D.int y6, D.str y7, D.sl y8]) && (eqb a9 y9)) := by simp only [eqb_cons, eqb_nil, eqb_int, eqb_str, eqb_bool, eqb_sl, Bool.and_true, Bool.and_assoc]
  rw [hq]
  all_goals (cases (eqb a0 y0) <;> cases (eqb [D.int a1, D.int a2, D.str a3, D.sl a4] [D.int y1, D.int y2, D.str y3, D.sl y4]) <;> cases (eqb [D.int a5, D.int a6, D.str a7, D.sl a8] [D.int y5, D.int y6, D.str y7, D.sl y8]) <;> cases (eqb a9 y9) <;> rfl)
theorem q55 {rs rs' : Rows} (hl : rs.length ≤ maxLen) (hl' : rs'.length ≤ maxLen) (hW : WRs H rs L9) (hW' : WRs H rs' L9) : rn ⟨55, 0, 0⟩ [.sl rs, .sl rs'] = some (0, [.bool (eqb rs rs')]) := by
  show run H Try.prog ⟨55, 0, 0⟩ _ = _
  rw [run_eq, g55_0_0_eq, g55_0_0]
  by_cases hll : rs'.length = rs.length
  · have hf := eq_loop (F := fun i => rn ⟨55, 0, 1⟩ [.sl rs, .sl rs', .int (rs).length, .int (i : Int)]) (A := some (0, [])) (B := some (1, [])) hll (fun i hi => ?_) ?_
    · simp only [rn, Int.natCast_zero] at hf
      rw [decide_eq_true (by omega : (rs.length : Int) = (rs'.length : Int))]
      simp only [Bool.not_true, cond_false]
      rw [hf]
      cases eqb rs rs' <;> rfl
    · have hi2 : i < rs'.length := by omega
      have hw := WRs_mem hW (List.getElem_mem hi)
      have hw' := WRs_mem hW' (List.getElem_mem hi2)
      obtain ⟨a0, hr, b0⟩ := wl9 hw
      obtain ⟨y0, hr', by0⟩ := wl9 hw'
      simp only [rn]
      rw [run_eq, g55_0_1_eq, g55_0_1]
      have hx1 : ((i : Int) < (rs.length : Int)) := by omega
      simp only [Int.toNat_natCast, rowAt_eq hi, rowAt_eq hi2, hr, hr', inbN, hi, hi2, hx1, decide_true, cond_true, Int.ofNat_lt, nth, List.getD_cons_zero, List.getD_cons_succ, D.I, D.S, D.L, D.B, wrap_succ hi hl]
      have hq : eqb [D.str a0] [D.str y0] = ((decide (a0 = y0))) := by simp only [eqb_cons, eqb_nil, eqb_int, eqb_str, eqb_bool, eqb_sl, Bool.and_true, Bool.and_assoc]
      rw [hq]
      all_goals (cases (decide (a0 = y0)) <;> rfl)
    · simp only [rn]
      rw [run_eq, g55_0_1_eq, g55_0_1]
      simp
  · rw [decide_eq_false (by omega : ¬ (rs.length : Int) = (rs'.length : Int)), eqb_len (fun h => hll h.symm)]
    rfl
theorem q58 {ds es : List D} (h : WL H ds L90) (h' : WL H es L90) : rn ⟨58, 0, 0⟩ (ds ++ es) = some (0, [.bool (eqb ds es)]) := by
  have h0 := h
  have h0' := h'
  obtain ⟨a0, a1, a2, a3, a4, a5, a6, a7, a8, rfl, b3, b4, c4, b7, b8, c8⟩ := wl90 h
  obtain ⟨y0, y1, y2, y3, y4, y5, y6, y7, y8, rfl, by3, by4, cy4, by7, by8, cy8⟩ := wl90 h'
  show run H Try.prog ⟨58, 0, 0⟩ [D.int a0, D.int a1, D.int a2, D.str a3, D.sl a4, D.int a5, D.int a6, D.str a7, D.sl a8, D.int y0, D.int y1, D.int y2, D.str y3, D.sl y4, D.int y5, D.int y6, D.str y7, D.sl y8] = _
  rw [run_eq, g58_0_0_eq, g58_0_0]
  have w1 : WL H [D.int a1, D.int a2, D.str a3, D.sl a4] L31 := WL.part 1 4 h0
  have w1p : WL H [D.int y1, D.int y2, D.str y3, D.sl y4] L31 := WL.part 1 4 h0'
  have e1 := q56 _ _ _ (Nat.lt_succ_self _) w1 w1p
  simp only [List.cons_append, List.nil_append] at e1
  simp only [rn] at e1
  have w5 : WL H [D.int a5, D.int a6, D.str a7, D.sl a8] L31 := WL.part 5 4 h0
  have w5p : WL H [D.int y5, D.int y6, D.str y7, D.sl y8] L31 := WL.part 5 4 h0'
  have e5 := q56 _ _ _ (Nat.lt_succ_self _) w5 w5p
  simp only [List.cons_append, List.nil_append] at e5
  simp only [rn] at e5
  simp only [e1, e5, Option.bind_some, nth, List.getD_cons_zero, List.getD_cons_succ, D.I, D.S, D.L, D.B]
  have hq : eqb [D.int a0, D.int a1, D.int a2, D.str a3, D.sl a4, D.int a5, D.int a6, D.str a7, D.sl a8] [D.int y0, D.int y1, D.int y2, D.str y3, D.sl y4, D.int y5, D.int y6, D.str y7, D.sl y8] = ((decide (a0 = y0)) && (eqb [D.int a1, D.int a2, D.str a3, D.sl a4] [D.int y1, D.int y2, D.str y3, D.sl y4]) && (eqb [D.int a5, D.int a6, D.str a7, D.sl a8] [D.int y5, D.int y6, D.str y7, D.sl y8])) := by simp only [eqb_cons, eqb_nil, eqb_int, eqb_str, eqb_bool, eqb_sl, Bool.and_true, Bool.and_assoc]
  rw [hq]
  all_goals (cases (decide (a0 = y0)) <;> cases (eqb [D.int a1, D.int a2, D.str a3, D.sl a4] [D.int y1, D.int y2, D.str y3, D.sl y4]) <;> cases (eqb [D.int a5, D.int a6, D.str a7, D.sl a8] [D.int y5, D.int y6, D.str y7, D.sl y8]) <;> rfl)
theorem q57 {rs rs' : Rows} (hl : rs.length ≤ maxLen) (hl' : rs'.length ≤ maxLen) (hW : WRs H rs L90) (hW' : WRs H rs' L90) : rn ⟨57, 0, 0⟩ [.sl rs, .sl rs'] = some (0, [.bool (eqb rs rs')]) := by
  show run H Try.prog ⟨57, 0, 0⟩ _ = _
  rw [run_eq, g57_0_0_eq, g57_0_0]
  by_cases hll : rs'.length = rs.length
  · have hf := eq_loop (F := fun i => rn ⟨57, 0, 1⟩ [.sl rs', .sl rs, .int (rs).length, .int (i : Int)]) (A := some (0, [])) (B := some (1, [])) hll (fun i hi => ?_) ?_
    · simp only [rn, Int.natCast_zero] at hf
      rw [decide_eq_true (by omega : (rs.length : Int) = (rs'.length : Int))]
      simp only [Bool.not_true, cond_false]
      rw [hf]
      cases eqb rs rs' <;> rfl
    · have hi2 : i < rs'.length := by omega
      have hw := WRs_mem hW (List.getElem_mem hi)
      have hw' := WRs_mem hW' (List.getElem_mem hi2)
      obtain ⟨a0, a1, a2, a3, a4, a5, a6, a7, a8, hr, b3, b4, c4, b7, b8, c8⟩ := wl90 hw
      obtain ⟨y0, y1, y2, y3, y4, y5, y6, y7, y8, hr', by3, by4, cy4, by7, by8, cy8⟩ := wl90 hw'
      have hc := q58 hw hw'
      rw [hr, hr'] at hc
      simp only [List.cons_append, List.nil_append] at hc
      simp only [rn] at hc
      simp only [rn]
      rw [run_eq, g57_0_1_eq, g57_0_1]
      have hx1 : ((i : Int) < (rs.length : Int)) := by omega
      simp only [Int.toNat_natCast, rowAt_eq hi, rowAt_eq hi2, hr, hr', inbN, hi, hi2, hx1, decide_true, cond_true, Int.ofNat_lt, nth, List.getD_cons_zero, List.getD_cons_succ, D.I, D.S, D.L, D.B, wrap_succ hi hl]
      simp only [hc, Option.bind_some, nth, List.getD_cons_zero, List.getD_cons_succ, D.I, D.S, D.L, D.B]
      cases (eqb [D.int a0, D.int a1, D.int a2, D.str a3, D.sl a4, D.int a5, D.int a6, D.str a7, D.sl a8] [D.int y0, D.int y1, D.int y2, D.str y3, D.sl y4, D.int y5, D.int y6, D.str y7, D.sl y8]) <;> rfl
    · simp only [rn]
      rw [run_eq, g57_0_1_eq, g57_0_1]
      simp
  · rw [decide_eq_false (by omega : ¬ (rs.length : Int) = (rs'.length : Int)), eqb_len (fun h => hll h.symm)]
    rfl
theorem q22 {ds es : List D} (h : WL H ds L43) (h' : WL H es L43) : rn ⟨22, 0, 0⟩ (ds ++ es) = some (0, [.bool (eqb ds es)]) := by
  have h0 := h
  have h0' := h'
  obtain ⟨a0, a1, a2, a3, a4, a5, a6, a7, a8, a9, rfl, b0, c0, b3, b4, c4, b7, b8, c8, b9, c9⟩ := wl43 h
  obtain ⟨y0, y1, y2, y3, y4, y5, y6, y7, y8, y9, rfl, by0, cy0, by3, by4, cy4, by7, by8, cy8, by9, cy9⟩ := wl43 h'
  show run H Try.prog ⟨22, 0, 0⟩ [D.sl a0, D.int a1, D.int a2, D.str a3, D.sl a4, D.int a5, D.int a6, D.str a7, D.sl a8, D.sl a9, D.sl y0, D.int y1, D.int y2, D.str y3, D.sl y4, D.int y5, D.int y6, D.str y7, D.sl y8, D.sl y9] = _
  rw [run_eq, g22_0_0_eq, g22_0_0]
  have e0 := q55 b0 by0 c0 cy0
  simp only [rn] at e0
  have w1 : WL H [D.int a1, D.int a2, D.str a3, D.sl a4] L31 := WL.part 1 4 h0
  have w1p : WL H [D.int y1, D.int y2, D.str y3, D.sl y4] L31 := WL.part 1 4 h0'
  have e1 := q56 _ _ _ (Nat.lt_succ_self _) w1 w1p
  simp only [List.cons_append, List.nil_append] at e1
  simp only [rn] at e1
  have w5 : WL H [D.int a5, D.int a6, D.str a7, D.sl a8] L31 := WL.part 5 4 h0
  have w5p : WL H [D.int y5, D.int y6, D.str y7, D.sl y8] L31 := WL.part 5 4 h0'
  have e5 := q56 _ _ _ (Nat.lt_succ_self _) w5 w5p
  simp only [List.cons_append, List.nil_append] at e5
  simp only [rn] at e5
  have e9 := q57 b9 by9 c9 cy9
  simp only [rn] at e9
  simp only [e0, e1, e5, e9, Option.bind_some, nth, List.getD_cons_zero, List.getD_cons_succ, D.I, D.S, D.L, D.B]
  have hq : eqb [D.sl a0, D.int a1, D.int a2, D.str a3, D.sl a4, D.int a5, D.int a6, D.str a7, D.sl a8, D.sl a9] [D.sl y0, D.int y1, D.int y2, D.str y3, D.sl y4, D.int y5, D.int y6, D.str y7, D.sl y8, D.sl y9] = ((eqb a0 y0) && (eqb [D.int a1, D.int a2, D.str a3, D.sl a4] [D.int y1, D.int y2, D.str y3, D.sl y4]) && (eqb [D.int a5, D.int a6, D.str a7, D.sl a8] [D.int y5, D.int y6, D.str y7, D.sl y8]) && (eqb a9 y9)) := by simp only [eqb_cons, eqb_nil, eqb_int, eqb_str, eqb_bool, eqb_sl, Bool.and_true, Bool.and_assoc]
  rw [hq]
  all_goals (cases (eqb a0 y0) <;> cases (eqb [D.int a1, D.int a2, D.str a3, D.sl a4] [D.int y1, D.int y2, D.str y3, D.sl y4]) <;> cases (eqb [D.int a5, D.int a6, D.str a7, D.sl a8] [D.int y5, D.int y6, D.str y7, D.sl y8]) <;> cases (eqb a9 y9) <;> rfl)
end Go.Q.S
