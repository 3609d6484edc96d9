/- The functions of this seat, as that machine runs them. -/
import Derived.Test.YtmahppdampmpfaaQC
import Derived.Test.YtmahppdampmpfaaX2
set_option linter.unusedVariables false
set_option linter.unusedSimpArgs false
namespace Go.Q.S
open Go Go.Q Go.Proofs
noncomputable abbrev rn : Key → List D → R := run H Try.prog
def L31 : List CT := [.int .i64, .int .i64, .str, .sl 31]
theorem ty31 : H.ty 31 = some ⟨true, L31, [(0, 3), (1, 3), (2, 9), (3, 29)]⟩ := by kernel_rfl
theorem wl31 {ds : List D} (h : WL H ds L31) : ∃ a0 a1 a2 a3, ds = [D.int a0, D.int a1, D.str a2, D.sl a3] ∧ a2.size ≤ maxLen ∧ a3.length ≤ maxLen ∧ WRs H a3 L31 := by
  unfold L31 at h
  obtain ⟨a0, _, rfl, _, h⟩ := wl_int h
  obtain ⟨a1, _, rfl, _, h⟩ := wl_int h
  obtain ⟨a2, _, rfl, b2, h⟩ := wl_str h
  obtain ⟨a3, _, rfl, b3, c3, h⟩ := wl_sl ty31 h
  obtain rfl := wl_nil h
  exact ⟨a0, a1, a2, a3, rfl, b2, b3, c3⟩
def L109 : List CT := [.str, .int .i64, .int .i64, .str, .sl 31]
theorem ty109 : H.ty 109 = some ⟨true, L109, [(0, 9), (1, 31)]⟩ := by kernel_rfl
theorem wl109 {ds : List D} (h : WL H ds L109) : ∃ a0 a1 a2 a3 a4, ds = [D.str a0, D.int a1, D.int a2, D.str a3, D.sl a4] ∧ a0.size ≤ maxLen ∧ a3.size ≤ maxLen ∧ a4.length ≤ maxLen ∧ WRs H a4 L31 := by
  unfold L109 at h
  obtain ⟨a0, _, rfl, b0, h⟩ := wl_str h
  obtain ⟨a1, _, rfl, _, h⟩ := wl_int h
  obtain ⟨a2, _, rfl, _, h⟩ := wl_int h
  obtain ⟨a3, _, rfl, b3, h⟩ := wl_str h
  obtain ⟨a4, _, rfl, b4, c4, h⟩ := wl_sl ty31 h
  obtain rfl := wl_nil h
  exact ⟨a0, a1, a2, a3, a4, rfl, b0, b3, b4, c4⟩
theorem q49 {rs rs' : Rows} (hl : rs.length ≤ maxLen) (hl' : rs'.length ≤ maxLen) (hW : WRs H rs L31) (hW' : WRs H rs' L31) (hel : ∀ r r', r ∈ rs → r' ∈ rs' → rn ⟨18, 0, 0⟩ (r ++ r') = some (0, [.bool (eqb r r')])) : rn ⟨49, 0, 0⟩ [.sl rs, .sl rs'] = some (0, [.bool (eqb rs rs')]) := by
  show run H Try.prog ⟨49, 0, 0⟩ _ = _
  rw [run_eq, g49_0_0_eq, g49_0_0]
  by_cases hll : rs'.length = rs.length
  · have hf := eq_loop (F := fun i => rn ⟨49, 0, 1⟩ [.sl rs, .sl rs', .int (i : Int)]) (A := some (0, [])) (B := some (1, [])) hll (fun i hi => ?_) ?_
    · simp only [rn, Int.natCast_zero] at hf
      rw [decide_eq_true (by omega : (rs.length : Int) = (rs'.length : Int))]
      simp only [Bool.not_true, cond_false]
      rw [hf]
      cases eqb rs rs' <;> rfl
    · have hi2 : i < rs'.length := by omega
      have hw := WRs_mem hW (List.getElem_mem hi)
      have hw' := WRs_mem hW' (List.getElem_mem hi2)
      obtain ⟨a0, a1, a2, a3, hr, b2, b3, c3⟩ := wl31 hw
      obtain ⟨y0, y1, y2, y3, hr', by2, by3, cy3⟩ := wl31 hw'
      have hc := hel _ _ (List.getElem_mem hi) (List.getElem_mem hi2)
      rw [hr, hr'] at hc
      simp only [List.cons_append, List.nil_append] at hc
      simp only [rn] at hc
      simp only [rn]
      rw [run_eq, g49_0_1_eq, g49_0_1]
      simp only [Int.toNat_natCast, rowAt_eq hi, rowAt_eq hi2, hr, hr', inbN, hi, hi2, decide_true, cond_true, Int.ofNat_lt, nth, List.getD_cons_zero, List.getD_cons_succ, D.I, D.S, D.L, D.B, wrap_succ hi hl]
      simp only [hc, Option.bind_some, nth, List.getD_cons_zero, List.getD_cons_succ, D.I, D.S, D.L, D.B]
      cases (eqb [D.int a0, D.int a1, D.str a2, D.sl a3] [D.int y0, D.int y1, D.str y2, D.sl y3]) <;> rfl
    · simp only [rn]
      rw [run_eq, g49_0_1_eq, g49_0_1]
      simp
  · rw [decide_eq_false (by omega : ¬ (rs.length : Int) = (rs'.length : Int)), eqb_len (fun h => hll h.symm)]
    rfl
theorem q18 : ∀ (N : Nat) (ds es : List D), SizeOf.sizeOf ds < N → WL H ds L31 → WL H es L31 → rn ⟨18, 0, 0⟩ (ds ++ es) = some (0, [.bool (eqb ds es)])
  | 0, ds, es, hN, _, _ => absurd hN (Nat.not_lt_zero _)
  | N + 1, ds, es, hN, h, h' => by
    have h0 := h
    have h0' := h'
    obtain ⟨a0, a1, a2, a3, rfl, b2, b3, c3⟩ := wl31 h
    obtain ⟨y0, y1, y2, y3, rfl, by2, by3, cy3⟩ := wl31 h'
    show run H Try.prog ⟨18, 0, 0⟩ [D.int a0, D.int a1, D.str a2, D.sl a3, D.int y0, D.int y1, D.str y2, D.sl y3] = _
    rw [run_eq, g18_0_0_eq, g18_0_0]
    have e3 := q49 b3 by3 c3 cy3 (fun r r' hr hr' => q18 N r r' (by have h1 := size_row hr; simp only [List.cons.sizeOf_spec, D.sl.sizeOf_spec] at hN; omega) (WRs_mem c3 hr) (WRs_mem cy3 hr'))
    simp only [rn] at e3
    simp only [e3, Option.bind_some, nth, List.getD_cons_zero, List.getD_cons_succ, D.I, D.S, D.L, D.B]
    simp only [eq_step, eq_end, eqb_cons, eqb_nil, eqb_int, eqb_str, eqb_bool, eqb_sl, Bool.and_true, Bool.and_assoc]
theorem q79 {ds es : List D} (h : WL H ds L109) (h' : WL H es L109) : rn ⟨79, 0, 0⟩ (ds ++ es) = some (0, [.bool (eqb ds es)]) := by
  have h0 := h
  have h0' := h'
  obtain ⟨a0, a1, a2, a3, a4, rfl, b0, b3, b4, c4⟩ := wl109 h
  obtain ⟨y0, y1, y2, y3, y4, rfl, by0, by3, by4, cy4⟩ := wl109 h'
  show run H Try.prog ⟨79, 0, 0⟩ [D.str a0, D.int a1, D.int a2, D.str a3, D.sl a4, D.str y0, D.int y1, D.int y2, D.str y3, D.sl y4] = _
  rw [run_eq, g79_0_0_eq, g79_0_0]
  have w1 : WL H [D.int a1, D.int a2, D.str a3, D.sl a4] L31 := WL.part 1 4 h0
  have w1p : WL H [D.int y1, D.int y2, D.str y3, D.sl y4] L31 := WL.part 1 4 h0'
  have e1 := q18 _ _ _ (Nat.lt_succ_self _) w1 w1p
  simp only [List.cons_append, List.nil_append] at e1
  simp only [rn] at e1
  simp only [e1, Option.bind_some, nth, List.getD_cons_zero, List.getD_cons_succ, D.I, D.S, D.L, D.B]
  simp only [eq_step, eq_end, eqb_cons, eqb_nil, eqb_int, eqb_str, eqb_bool, eqb_sl, Bool.and_true, Bool.and_assoc]
theorem q36 {rs rs' : Rows} (hl : rs.length ≤ maxLen) (hl' : rs'.length ≤ maxLen) (hW : WRs H rs L109) (hW' : WRs H rs' L109) : rn ⟨36, 0, 0⟩ [.sl rs, .sl rs'] = some (0, [.bool (eqb rs rs')]) := by
  show run H Try.prog ⟨36, 0, 0⟩ _ = _
  rw [run_eq, g36_0_0_eq, g36_0_0]
  by_cases hll : rs'.length = rs.length
  · have hf := eq_loop (F := fun i => rn ⟨36, 0, 1⟩ [.sl rs, .sl rs', .int (i : Int)]) (A := some (0, [])) (B := some (1, [])) hll (fun i hi => ?_) ?_
    · simp only [rn, Int.natCast_zero] at hf
      rw [decide_eq_true (by omega : (rs.length : Int) = (rs'.length : Int))]
      simp only [Bool.not_true, cond_false]
      rw [hf]
      cases eqb rs rs' <;> rfl
    · have hi2 : i < rs'.length := by omega
      have hw := WRs_mem hW (List.getElem_mem hi)
      have hw' := WRs_mem hW' (List.getElem_mem hi2)
      obtain ⟨a0, a1, a2, a3, a4, hr, b0, b3, b4, c4⟩ := wl109 hw
      obtain ⟨y0, y1, y2, y3, y4, hr', by0, by3, by4, cy4⟩ := wl109 hw'
      have hc := q79 hw hw'
      rw [hr, hr'] at hc
      simp only [List.cons_append, List.nil_append] at hc
      simp only [rn] at hc
      simp only [rn]
      rw [run_eq, g36_0_1_eq, g36_0_1]
      simp only [Int.toNat_natCast, rowAt_eq hi, rowAt_eq hi2, hr, hr', inbN, hi, hi2, decide_true, cond_true, Int.ofNat_lt, nth, List.getD_cons_zero, List.getD_cons_succ, D.I, D.S, D.L, D.B, wrap_succ hi hl]
      simp only [hc, Option.bind_some, nth, List.getD_cons_zero, List.getD_cons_succ, D.I, D.S, D.L, D.B]
      cases (eqb [D.str a0, D.int a1, D.int a2, D.str a3, D.sl a4] [D.str y0, D.int y1, D.int y2, D.str y3, D.sl y4]) <;> rfl
    · simp only [rn]
      rw [run_eq, g36_0_1_eq, g36_0_1]
      simp
  · rw [decide_eq_false (by omega : ¬ (rs.length : Int) = (rs'.length : Int)), eqb_len (fun h => hll h.symm)]
    rfl
def L9 : List CT := [.str]
theorem ty9 : H.ty 9 = some ⟨false, L9, []⟩ := by kernel_rfl
theorem wl9 {ds : List D} (h : WL H ds L9) : ∃ a0, ds = [D.str a0] ∧ a0.size ≤ maxLen := by
  unfold L9 at h
  obtain ⟨a0, _, rfl, b0, h⟩ := wl_str h
  obtain rfl := wl_nil h
  exact ⟨a0, rfl, b0⟩
def L90 : List CT := [.int .i64, .int .i64, .int .i64, .str, .sl 31, .int .i64, .int .i64, .str, .sl 31]
theorem ty90 : H.ty 90 = some ⟨true, L90, [(0, 3), (1, 31), (5, 31)]⟩ := by kernel_rfl
theorem wl90 {ds : List D} (h : WL H ds L90) : ∃ a0 a1 a2 a3 a4 a5 a6 a7 a8, ds = [D.int a0, D.int a1, D.int a2, D.str a3, D.sl a4, D.int a5, D.int a6, D.str a7, D.sl a8] ∧ a3.size ≤ maxLen ∧ a4.length ≤ maxLen ∧ WRs H a4 L31 ∧ a7.size ≤ maxLen ∧ a8.length ≤ maxLen ∧ WRs H a8 L31 := by
  unfold L90 at h
  obtain ⟨a0, _, rfl, _, h⟩ := wl_int h
  obtain ⟨a1, _, rfl, _, h⟩ := wl_int h
  obtain ⟨a2, _, rfl, _, h⟩ := wl_int h
  obtain ⟨a3, _, rfl, b3, h⟩ := wl_str h
  obtain ⟨a4, _, rfl, b4, c4, h⟩ := wl_sl ty31 h
  obtain ⟨a5, _, rfl, _, h⟩ := wl_int h
  obtain ⟨a6, _, rfl, _, h⟩ := wl_int h
  obtain ⟨a7, _, rfl, b7, h⟩ := wl_str h
  obtain ⟨a8, _, rfl, b8, c8, h⟩ := wl_sl ty31 h
  obtain rfl := wl_nil h
  exact ⟨a0, a1, a2, a3, a4, a5, a6, a7, a8, rfl, b3, b4, c4, b7, b8, c8⟩
def L43 : List CT := [.sl 9, .int .i64, .int .i64, .str, .sl 31, .int .i64, .int .i64, .str, .sl 31, .sl 90]
theorem ty43 : H.ty 43 = some ⟨true, L43, [(0, 35), (1, 31), (5, 31), (9, 41)]⟩ := by kernel_rfl
theorem wl43 {ds : List D} (h : WL H ds L43) : ∃ a0 a1 a2 a3 a4 a5 a6 a7 a8 a9, ds = [D.sl a0, D.int a1, D.int a2, D.str a3, D.sl a4, D.int a5, D.int a6, D.str a7, D.sl a8, D.sl a9] ∧ a0.length ≤ maxLen ∧ WRs H a0 L9 ∧ a3.size ≤ maxLen ∧ a4.length ≤ maxLen ∧ WRs H a4 L31 ∧ a7.size ≤ maxLen ∧ a8.length ≤ maxLen ∧ WRs H a8 L31 ∧ a9.length ≤ maxLen ∧ WRs H a9 L90 := by
  unfold L43 at h
  obtain ⟨a0, _, rfl, b0, c0, h⟩ := wl_sl ty9 h
  obtain ⟨a1, _, rfl, _, h⟩ := wl_int h
  obtain ⟨a2, _, rfl, _, h⟩ := wl_int h
  obtain ⟨a3, _, rfl, b3, h⟩ := wl_str h
  obtain ⟨a4, _, rfl, b4, c4, h⟩ := wl_sl ty31 h
  obtain ⟨a5, _, rfl, _, h⟩ := wl_int h
  obtain ⟨a6, _, rfl, _, h⟩ := wl_int h
  obtain ⟨a7, _, rfl, b7, h⟩ := wl_str h
  obtain ⟨a8, _, rfl, b8, c8, h⟩ := wl_sl ty31 h
  obtain ⟨a9, _, rfl, b9, c9, h⟩ := wl_sl ty90 h
  obtain rfl := wl_nil h
  exact ⟨a0, a1, a2, a3, a4, a5, a6, a7, a8, a9, rfl, b0, c0, b3, b4, c4, b7, b8, c8, b9, c9⟩
theorem q35 {rs rs' : Rows} (hl : rs.length ≤ maxLen) (hl' : rs'.length ≤ maxLen) (hW : WRs H rs L9) (hW' : WRs H rs' L9) : rn ⟨35, 0, 0⟩ [.sl rs, .sl rs'] = some (0, [.bool (eqb rs rs')]) := by
  show run H Try.prog ⟨35, 0, 0⟩ _ = _
  rw [run_eq, g35_0_0_eq, g35_0_0]
  by_cases hll : rs'.length = rs.length
  · have hf := eq_loop (F := fun i => rn ⟨35, 0, 1⟩ [.sl rs, .sl rs', .int (i : Int)]) (A := some (0, [])) (B := some (1, [])) hll (fun i hi => ?_) ?_
    · simp only [rn, Int.natCast_zero] at hf
      rw [decide_eq_true (by omega : (rs.length : Int) = (rs'.length : Int))]
      simp only [Bool.not_true, cond_false]
      rw [hf]
      cases eqb rs rs' <;> rfl
    · have hi2 : i < rs'.length := by omega
      have hw := WRs_mem hW (List.getElem_mem hi)
      have hw' := WRs_mem hW' (List.getElem_mem hi2)
      obtain ⟨a0, hr, b0⟩ := wl9 hw
      obtain ⟨y0, hr', by0⟩ := wl9 hw'
      simp only [rn]
      rw [run_eq, g35_0_1_eq, g35_0_1]
      simp only [Int.toNat_natCast, rowAt_eq hi, rowAt_eq hi2, hr, hr', inbN, hi, hi2, decide_true, cond_true, Int.ofNat_lt, nth, List.getD_cons_zero, List.getD_cons_succ, D.I, D.S, D.L, D.B, wrap_succ hi hl]
      simp only [eqb_cons, eqb_nil, eqb_int, eqb_str, eqb_bool, eqb_sl, Bool.and_true]
      cases (decide (a0 = y0)) <;> rfl
    · simp only [rn]
      rw [run_eq, g35_0_1_eq, g35_0_1]
      simp
  · rw [decide_eq_false (by omega : ¬ (rs.length : Int) = (rs'.length : Int)), eqb_len (fun h => hll h.symm)]
    rfl
theorem q89 {ds es : List D} (h : WL H ds L90) (h' : WL H es L90) : rn ⟨89, 0, 0⟩ (ds ++ es) = some (0, [.bool (eqb ds es)]) := by
  have h0 := h
  have h0' := h'
  obtain ⟨a0, a1, a2, a3, a4, a5, a6, a7, a8, rfl, b3, b4, c4, b7, b8, c8⟩ := wl90 h
  obtain ⟨y0, y1, y2, y3, y4, y5, y6, y7, y8, rfl, by3, by4, cy4, by7, by8, cy8⟩ := wl90 h'
  show run H Try.prog ⟨89, 0, 0⟩ [D.int a0, D.int a1, D.int a2, D.str a3, D.sl a4, D.int a5, D.int a6, D.str a7, D.sl a8, D.int y0, D.int y1, D.int y2, D.str y3, D.sl y4, D.int y5, D.int y6, D.str y7, D.sl y8] = _
  rw [run_eq, g89_0_0_eq, g89_0_0]
  have w1 : WL H [D.int a1, D.int a2, D.str a3, D.sl a4] L31 := WL.part 1 4 h0
  have w1p : WL H [D.int y1, D.int y2, D.str y3, D.sl y4] L31 := WL.part 1 4 h0'
  have e1 := q18 _ _ _ (Nat.lt_succ_self _) w1 w1p
  simp only [List.cons_append, List.nil_append] at e1
  simp only [rn] at e1
  have w5 : WL H [D.int a5, D.int a6, D.str a7, D.sl a8] L31 := WL.part 5 4 h0
  have w5p : WL H [D.int y5, D.int y6, D.str y7, D.sl y8] L31 := WL.part 5 4 h0'
  have e5 := q18 _ _ _ (Nat.lt_succ_self _) w5 w5p
  simp only [List.cons_append, List.nil_append] at e5
  simp only [rn] at e5
  simp only [e1, e5, Option.bind_some, nth, List.getD_cons_zero, List.getD_cons_succ, D.I, D.S, D.L, D.B]
  simp only [eq_step, eq_end, eqb_cons, eqb_nil, eqb_int, eqb_str, eqb_bool, eqb_sl, Bool.and_true, Bool.and_assoc]
theorem q59 {rs rs' : Rows} (hl : rs.length ≤ maxLen) (hl' : rs'.length ≤ maxLen) (hW : WRs H rs L90) (hW' : WRs H rs' L90) : rn ⟨59, 0, 0⟩ [.sl rs, .sl rs'] = some (0, [.bool (eqb rs rs')]) := by
  show run H Try.prog ⟨59, 0, 0⟩ _ = _
  rw [run_eq, g59_0_0_eq, g59_0_0]
  by_cases hll : rs'.length = rs.length
  · have hf := eq_loop (F := fun i => rn ⟨59, 0, 1⟩ [.sl rs, .sl rs', .int (i : Int)]) (A := some (0, [])) (B := some (1, [])) hll (fun i hi => ?_) ?_
    · simp only [rn, Int.natCast_zero] at hf
      rw [decide_eq_true (by omega : (rs.length : Int) = (rs'.length : Int))]
      simp only [Bool.not_true, cond_false]
      rw [hf]
      cases eqb rs rs' <;> rfl
    · have hi2 : i < rs'.length := by omega
      have hw := WRs_mem hW (List.getElem_mem hi)
      have hw' := WRs_mem hW' (List.getElem_mem hi2)
      obtain ⟨a0, a1, a2, a3, a4, a5, a6, a7, a8, hr, b3, b4, c4, b7, b8, c8⟩ := wl90 hw
      obtain ⟨y0, y1, y2, y3, y4, y5, y6, y7, y8, hr', by3, by4, cy4, by7, by8, cy8⟩ := wl90 hw'
      have hc := q89 hw hw'
      rw [hr, hr'] at hc
      simp only [List.cons_append, List.nil_append] at hc
      simp only [rn] at hc
      simp only [rn]
      rw [run_eq, g59_0_1_eq, g59_0_1]
      simp only [Int.toNat_natCast, rowAt_eq hi, rowAt_eq hi2, hr, hr', inbN, hi, hi2, decide_true, cond_true, Int.ofNat_lt, nth, List.getD_cons_zero, List.getD_cons_succ, D.I, D.S, D.L, D.B, wrap_succ hi hl]
      simp only [hc, Option.bind_some, nth, List.getD_cons_zero, List.getD_cons_succ, D.I, D.S, D.L, D.B]
      cases (eqb [D.int a0, D.int a1, D.int a2, D.str a3, D.sl a4, D.int a5, D.int a6, D.str a7, D.sl a8] [D.int y0, D.int y1, D.int y2, D.str y3, D.sl y4, D.int y5, D.int y6, D.str y7, D.sl y8]) <;> rfl
    · simp only [rn]
      rw [run_eq, g59_0_1_eq, g59_0_1]
      simp
  · rw [decide_eq_false (by omega : ¬ (rs.length : Int) = (rs'.length : Int)), eqb_len (fun h => hll h.symm)]
    rfl
theorem q23 {ds es : List D} (h : WL H ds L43) (h' : WL H es L43) : rn ⟨23, 0, 0⟩ (ds ++ es) = some (0, [.bool (eqb ds es)]) := by
  have h0 := h
  have h0' := h'
  obtain ⟨a0, a1, a2, a3, a4, a5, a6, a7, a8, a9, rfl, b0, c0, b3, b4, c4, b7, b8, c8, b9, c9⟩ := wl43 h
  obtain ⟨y0, y1, y2, y3, y4, y5, y6, y7, y8, y9, rfl, by0, cy0, by3, by4, cy4, by7, by8, cy8, by9, cy9⟩ := wl43 h'
  show run H Try.prog ⟨23, 0, 0⟩ [D.sl a0, D.int a1, D.int a2, D.str a3, D.sl a4, D.int a5, D.int a6, D.str a7, D.sl a8, D.sl a9, D.sl y0, D.int y1, D.int y2, D.str y3, D.sl y4, D.int y5, D.int y6, D.str y7, D.sl y8, D.sl y9] = _
  rw [run_eq, g23_0_0_eq, g23_0_0]
  have e0 := q35 b0 by0 c0 cy0
  simp only [rn] at e0
  have w1 : WL H [D.int a1, D.int a2, D.str a3, D.sl a4] L31 := WL.part 1 4 h0
  have w1p : WL H [D.int y1, D.int y2, D.str y3, D.sl y4] L31 := WL.part 1 4 h0'
  have e1 := q18 _ _ _ (Nat.lt_succ_self _) w1 w1p
  simp only [List.cons_append, List.nil_append] at e1
  simp only [rn] at e1
  have w5 : WL H [D.int a5, D.int a6, D.str a7, D.sl a8] L31 := WL.part 5 4 h0
  have w5p : WL H [D.int y5, D.int y6, D.str y7, D.sl y8] L31 := WL.part 5 4 h0'
  have e5 := q18 _ _ _ (Nat.lt_succ_self _) w5 w5p
  simp only [List.cons_append, List.nil_append] at e5
  simp only [rn] at e5
  have e9 := q59 b9 by9 c9 cy9
  simp only [rn] at e9
  simp only [e0, e1, e5, e9, Option.bind_some, nth, List.getD_cons_zero, List.getD_cons_succ, D.I, D.S, D.L, D.B]
  simp only [eq_step, eq_end, eqb_cons, eqb_nil, eqb_int, eqb_str, eqb_bool, eqb_sl, Bool.and_true, Bool.and_assoc]
def L3 : List CT := [.int .i64]
theorem ty3 : H.ty 3 = some ⟨false, L3, []⟩ := by kernel_rfl
theorem wl3 {ds : List D} (h : WL H ds L3) : ∃ a0, ds = [D.int a0] := by
  unfold L3 at h
  obtain ⟨a0, _, rfl, _, h⟩ := wl_int h
  obtain rfl := wl_nil h
  exact ⟨a0, rfl⟩
theorem q108 {rs rs' : Rows} (hl : rs.length ≤ maxLen) (hl' : rs'.length ≤ maxLen) (hW : WRs H rs L3) (hW' : WRs H rs' L3) : rn ⟨108, 0, 0⟩ [.sl rs, .sl rs'] = some (0, [.bool (eqb rs rs')]) := by
  show run H Try.prog ⟨108, 0, 0⟩ _ = _
  rw [run_eq, g108_0_0_eq, g108_0_0]
  by_cases hll : rs'.length = rs.length
  · have hf := eq_loop (F := fun i => rn ⟨108, 0, 1⟩ [.sl rs, .sl rs', .int (i : Int)]) (A := some (0, [])) (B := some (1, [])) hll (fun i hi => ?_) ?_
    · simp only [rn, Int.natCast_zero] at hf
      rw [decide_eq_true (by omega : (rs.length : Int) = (rs'.length : Int))]
      simp only [Bool.not_true, cond_false]
      rw [hf]
      cases eqb rs rs' <;> rfl
    · have hi2 : i < rs'.length := by omega
      have hw := WRs_mem hW (List.getElem_mem hi)
      have hw' := WRs_mem hW' (List.getElem_mem hi2)
      obtain ⟨a0, hr⟩ := wl3 hw
      obtain ⟨y0, hr'⟩ := wl3 hw'
      simp only [rn]
      rw [run_eq, g108_0_1_eq, g108_0_1]
      simp only [Int.toNat_natCast, rowAt_eq hi, rowAt_eq hi2, hr, hr', inbN, hi, hi2, decide_true, cond_true, Int.ofNat_lt, nth, List.getD_cons_zero, List.getD_cons_succ, D.I, D.S, D.L, D.B, wrap_succ hi hl]
      simp only [eqb_cons, eqb_nil, eqb_int, eqb_str, eqb_bool, eqb_sl, Bool.and_true]
      cases (decide (a0 = y0)) <;> rfl
    · simp only [rn]
      rw [run_eq, g108_0_1_eq, g108_0_1]
      simp
  · rw [decide_eq_false (by omega : ¬ (rs.length : Int) = (rs'.length : Int)), eqb_len (fun h => hll h.symm)]
    rfl
def L95 : List CT := [.int .i64, .sl 3, .int .i64, .sl 109]
theorem ty95 : H.ty 95 = some ⟨true, L95, [(0, 3), (1, 93), (2, 3), (3, 62)]⟩ := by kernel_rfl
theorem wl95 {ds : List D} (h : WL H ds L95) : ∃ a0 a1 a2 a3, ds = [D.int a0, D.sl a1, D.int a2, D.sl a3] ∧ a1.length ≤ maxLen ∧ WRs H a1 L3 ∧ a3.length ≤ maxLen ∧ WRs H a3 L109 := by
  unfold L95 at h
  obtain ⟨a0, _, rfl, _, h⟩ := wl_int h
  obtain ⟨a1, _, rfl, b1, c1, h⟩ := wl_sl ty3 h
  obtain ⟨a2, _, rfl, _, h⟩ := wl_int h
  obtain ⟨a3, _, rfl, b3, c3, h⟩ := wl_sl ty109 h
  obtain rfl := wl_nil h
  exact ⟨a0, a1, a2, a3, rfl, b1, c1, b3, c3⟩
def L53 : List CT := [.sl 95]
theorem ty53 : H.ty 53 = some ⟨true, L53, [(0, 51)]⟩ := by kernel_rfl
theorem wl53 {ds : List D} (h : WL H ds L53) : ∃ a0, ds = [D.sl a0] ∧ a0.length ≤ maxLen ∧ WRs H a0 L95 := by
  unfold L53 at h
  obtain ⟨a0, _, rfl, b0, c0, h⟩ := wl_sl ty95 h
  obtain rfl := wl_nil h
  exact ⟨a0, rfl, b0, c0⟩
theorem q95 {ds es : List D} (h : WL H ds L95) (h' : WL H es L95) : rn ⟨95, 0, 0⟩ (ds ++ es) = some (0, [.bool (eqb ds es)]) := by
  have h0 := h
  have h0' := h'
  obtain ⟨a0, a1, a2, a3, rfl, b1, c1, b3, c3⟩ := wl95 h
  obtain ⟨y0, y1, y2, y3, rfl, by1, cy1, by3, cy3⟩ := wl95 h'
  show run H Try.prog ⟨95, 0, 0⟩ [D.int a0, D.sl a1, D.int a2, D.sl a3, D.int y0, D.sl y1, D.int y2, D.sl y3] = _
  rw [run_eq, g95_0_0_eq, g95_0_0]
  have e1 := q108 b1 by1 c1 cy1
  simp only [rn] at e1
  have e3 := q36 b3 by3 c3 cy3
  simp only [rn] at e3
  simp only [e1, e3, Option.bind_some, nth, List.getD_cons_zero, List.getD_cons_succ, D.I, D.S, D.L, D.B]
  simp only [eq_step, eq_end, eqb_cons, eqb_nil, eqb_int, eqb_str, eqb_bool, eqb_sl, Bool.and_true, Bool.and_assoc]
theorem q66 {rs rs' : Rows} (hl : rs.length ≤ maxLen) (hl' : rs'.length ≤ maxLen) (hW : WRs H rs L95) (hW' : WRs H rs' L95) : rn ⟨66, 0, 0⟩ [.sl rs, .sl rs'] = some (0, [.bool (eqb rs rs')]) := by
  show run H Try.prog ⟨66, 0, 0⟩ _ = _
  rw [run_eq, g66_0_0_eq, g66_0_0]
  by_cases hll : rs'.length = rs.length
  · have hf := eq_loop (F := fun i => rn ⟨66, 0, 1⟩ [.sl rs, .sl rs', .int (i : Int)]) (A := some (0, [])) (B := some (1, [])) hll (fun i hi => ?_) ?_
    · simp only [rn, Int.natCast_zero] at hf
      rw [decide_eq_true (by omega : (rs.length : Int) = (rs'.length : Int))]
      simp only [Bool.not_true, cond_false]
      rw [hf]
      cases eqb rs rs' <;> rfl
    · have hi2 : i < rs'.length := by omega
      have hw := WRs_mem hW (List.getElem_mem hi)
      have hw' := WRs_mem hW' (List.getElem_mem hi2)
      obtain ⟨a0, a1, a2, a3, hr, b1, c1, b3, c3⟩ := wl95 hw
      obtain ⟨y0, y1, y2, y3, hr', by1, cy1, by3, cy3⟩ := wl95 hw'
      have hc := q95 hw hw'
      rw [hr, hr'] at hc
      simp only [List.cons_append, List.nil_append] at hc
      simp only [rn] at hc
      simp only [rn]
      rw [run_eq, g66_0_1_eq, g66_0_1]
      simp only [Int.toNat_natCast, rowAt_eq hi, rowAt_eq hi2, hr, hr', inbN, hi, hi2, decide_true, cond_true, Int.ofNat_lt, nth, List.getD_cons_zero, List.getD_cons_succ, D.I, D.S, D.L, D.B, wrap_succ hi hl]
      simp only [hc, Option.bind_some, nth, List.getD_cons_zero, List.getD_cons_succ, D.I, D.S, D.L, D.B]
      cases (eqb [D.int a0, D.sl a1, D.int a2, D.sl a3] [D.int y0, D.sl y1, D.int y2, D.sl y3]) <;> rfl
    · simp only [rn]
      rw [run_eq, g66_0_1_eq, g66_0_1]
      simp
  · rw [decide_eq_false (by omega : ¬ (rs.length : Int) = (rs'.length : Int)), eqb_len (fun h => hll h.symm)]
    rfl
theorem q28 {ds es : List D} (h : WL H ds L53) (h' : WL H es L53) : rn ⟨28, 0, 0⟩ (ds ++ es) = some (0, [.bool (eqb ds es)]) := by
  have h0 := h
  have h0' := h'
  obtain ⟨a0, rfl, b0, c0⟩ := wl53 h
  obtain ⟨y0, rfl, by0, cy0⟩ := wl53 h'
  show run H Try.prog ⟨28, 0, 0⟩ [D.sl a0, D.sl y0] = _
  rw [run_eq, g28_0_0_eq, g28_0_0]
  have e0 := q66 b0 by0 c0 cy0
  simp only [rn] at e0
  simp only [e0, Option.bind_some, nth, List.getD_cons_zero, List.getD_cons_succ, D.I, D.S, D.L, D.B]
  simp only [eq_step, eq_end, eqb_cons, eqb_nil, eqb_int, eqb_str, eqb_bool, eqb_sl, Bool.and_true, Bool.and_assoc]
theorem q83 {rs rs' : Rows} (hl : rs.length ≤ maxLen) (hl' : rs'.length ≤ maxLen) (hW : WRs H rs L53) (hW' : WRs H rs' L53) : rn ⟨83, 0, 0⟩ [.sl rs, .sl rs'] = some (0, [.bool (eqb rs rs')]) := by
  show run H Try.prog ⟨83, 0, 0⟩ _ = _
  rw [run_eq, g83_0_0_eq, g83_0_0]
  by_cases hll : rs'.length = rs.length
  · have hf := eq_loop (F := fun i => rn ⟨83, 0, 1⟩ [.sl rs, .sl rs', .int (i : Int)]) (A := some (0, [])) (B := some (1, [])) hll (fun i hi => ?_) ?_
    · simp only [rn, Int.natCast_zero] at hf
      rw [decide_eq_true (by omega : (rs.length : Int) = (rs'.length : Int))]
      simp only [Bool.not_true, cond_false]
      rw [hf]
      cases eqb rs rs' <;> rfl
    · have hi2 : i < rs'.length := by omega
      have hw := WRs_mem hW (List.getElem_mem hi)
      have hw' := WRs_mem hW' (List.getElem_mem hi2)
      obtain ⟨a0, hr, b0, c0⟩ := wl53 hw
      obtain ⟨y0, hr', by0, cy0⟩ := wl53 hw'
      have hc := q28 hw hw'
      rw [hr, hr'] at hc
      simp only [List.cons_append, List.nil_append] at hc
      simp only [rn] at hc
      simp only [rn]
      rw [run_eq, g83_0_1_eq, g83_0_1]
      simp only [Int.toNat_natCast, rowAt_eq hi, rowAt_eq hi2, hr, hr', inbN, hi, hi2, decide_true, cond_true, Int.ofNat_lt, nth, List.getD_cons_zero, List.getD_cons_succ, D.I, D.S, D.L, D.B, wrap_succ hi hl]
      simp only [hc, Option.bind_some, nth, List.getD_cons_zero, List.getD_cons_succ, D.I, D.S, D.L, D.B]
      cases (eqb [D.sl a0] [D.sl y0]) <;> rfl
    · simp only [rn]
      rw [run_eq, g83_0_1_eq, g83_0_1]
      simp
  · rw [decide_eq_false (by omega : ¬ (rs.length : Int) = (rs'.length : Int)), eqb_len (fun h => hll h.symm)]
    rfl
def L74 : List CT := [.int .i64, .sl 53, .int .i64, .int .i64]
theorem ty74 : H.ty 74 = some ⟨true, L74, [(0, 3), (1, 72), (2, 3), (3, 3)]⟩ := by kernel_rfl
theorem wl74 {ds : List D} (h : WL H ds L74) : ∃ a0 a1 a2 a3, ds = [D.int a0, D.sl a1, D.int a2, D.int a3] ∧ a1.length ≤ maxLen ∧ WRs H a1 L53 := by
  unfold L74 at h
  obtain ⟨a0, _, rfl, _, h⟩ := wl_int h
  obtain ⟨a1, _, rfl, b1, c1, h⟩ := wl_sl ty53 h
  obtain ⟨a2, _, rfl, _, h⟩ := wl_int h
  obtain ⟨a3, _, rfl, _, h⟩ := wl_int h
  obtain rfl := wl_nil h
  exact ⟨a0, a1, a2, a3, rfl, b1, c1⟩
theorem q41 {ds es : List D} (h : WL H ds L74) (h' : WL H es L74) : rn ⟨41, 0, 0⟩ (ds ++ es) = some (0, [.bool (eqb ds es)]) := by
  have h0 := h
  have h0' := h'
  obtain ⟨a0, a1, a2, a3, rfl, b1, c1⟩ := wl74 h
  obtain ⟨y0, y1, y2, y3, rfl, by1, cy1⟩ := wl74 h'
  show run H Try.prog ⟨41, 0, 0⟩ [D.int a0, D.sl a1, D.int a2, D.int a3, D.int y0, D.sl y1, D.int y2, D.int y3] = _
  rw [run_eq, g41_0_0_eq, g41_0_0]
  have e1 := q83 b1 by1 c1 cy1
  simp only [rn] at e1
  simp only [e1, Option.bind_some, nth, List.getD_cons_zero, List.getD_cons_succ, D.I, D.S, D.L, D.B]
  simp only [eq_step, eq_end, eqb_cons, eqb_nil, eqb_int, eqb_str, eqb_bool, eqb_sl, Bool.and_true, Bool.and_assoc]
def L26 : List CT := [.int .i64, .int .i64, .str, .sl 26]
theorem ty26 : H.ty 26 = some ⟨true, L26, [(0, 3), (1, 3), (2, 9), (3, 24)]⟩ := by kernel_rfl
theorem wl26 {ds : List D} (h : WL H ds L26) : ∃ a0 a1 a2 a3, ds = [D.int a0, D.int a1, D.str a2, D.sl a3] ∧ a2.size ≤ maxLen ∧ a3.length ≤ maxLen ∧ WRs H a3 L26 := by
  unfold L26 at h
  obtain ⟨a0, _, rfl, _, h⟩ := wl_int h
  obtain ⟨a1, _, rfl, _, h⟩ := wl_int h
  obtain ⟨a2, _, rfl, b2, h⟩ := wl_str h
  obtain ⟨a3, _, rfl, b3, c3, h⟩ := wl_sl ty26 h
  obtain rfl := wl_nil h
  exact ⟨a0, a1, a2, a3, rfl, b2, b3, c3⟩
def L103 : List CT := [.str, .int .i64, .int .i64, .str, .sl 26]
theorem ty103 : H.ty 103 = some ⟨true, L103, [(0, 9), (1, 26)]⟩ := by kernel_rfl
theorem wl103 {ds : List D} (h : WL H ds L103) : ∃ a0 a1 a2 a3 a4, ds = [D.str a0, D.int a1, D.int a2, D.str a3, D.sl a4] ∧ a0.size ≤ maxLen ∧ a3.size ≤ maxLen ∧ a4.length ≤ maxLen ∧ WRs H a4 L26 := by
  unfold L103 at h
  obtain ⟨a0, _, rfl, b0, h⟩ := wl_str h
  obtain ⟨a1, _, rfl, _, h⟩ := wl_int h
  obtain ⟨a2, _, rfl, _, h⟩ := wl_int h
  obtain ⟨a3, _, rfl, b3, h⟩ := wl_str h
  obtain ⟨a4, _, rfl, b4, c4, h⟩ := wl_sl ty26 h
  obtain rfl := wl_nil h
  exact ⟨a0, a1, a2, a3, a4, rfl, b0, b3, b4, c4⟩
theorem s45 {rs : Rows} (hl : rs.length ≤ maxLen) (hW : WRs H rs L26) (hel : ∀ r ∈ rs, ∀ b, Bd b → rn ⟨14, 0, 0⟩ (r ++ [.int b]) = some (0, [.int (sub b (szL r))])) {b : Int} (hb : Bd b) : rn ⟨45, 0, 0⟩ [.sl rs, .int b] = some (0, [.int (sub b (D.sz (.sl rs)))]) := by
  show run H Try.prog ⟨45, 0, 0⟩ _ = _
  rw [run_eq, g45_0_0_eq, g45_0_0]
  simp only [D.sz]
  refine sz_pay hb hl (F := fun c => (run H Try.prog ⟨45, 0, 1⟩ [.sl rs, .int c, .int 0]).bind fun r1 => bif Nat.beq r1.1 0 then some (0, [.int ((nth r1.2 0).I)]) else bif Nat.beq r1.1 1 then some (0, [.int ((nth r1.2 0).I)]) else none) fun c hc h0 => ?_
  have := sz_loop (F := fun i b => rn ⟨45, 0, 1⟩ [.sl rs, .int b, .int (i : Int)]) (rows := rs) (fun i hi b hb h0 => ?_) (fun b hb => ?_) hc h0
  · simp only [Int.natCast_zero] at this
    show ((rn _ _).bind _ = _)
    rw [this]
    split
    · rfl
    · rename_i hh; rw [sub_neg _ (by omega)]; rfl
  · have hw := WRs_mem hW (List.getElem_mem hi)
    obtain ⟨a0, a1, a2, a3, hr, b2, b3, c3⟩ := wl26 hw
    rw [hr] at hw
    have hc := hel rs[i] (List.getElem_mem hi) b hb
    generalize hq : szL rs[i] = q at hc ⊢
    rw [hr] at hc
    simp only [List.cons_append, List.nil_append, rn] at hc
    simp only [rn]
    rw [run_eq, g45_0_1_eq, g45_0_1]
    simp only [Int.toNat_natCast, rowAt_eq hi, hr, inbN, hi, decide_true, cond_true, Int.ofNat_lt, nth, List.getD_cons_zero, List.getD_cons_succ, D.I, D.S, D.L, D.B, wrap_succ hi hl]
    rw [hc]
    simp only [Option.bind_some, nth, List.getD_cons_zero, List.getD_cons_succ, D.I, D.S, D.L, D.B]
    by_cases hq : 0 ≤ sub b q
    · rw [if_pos hq, decide_eq_false (by omega)]; rfl
    · rw [if_neg hq, decide_eq_true (by omega)]; rfl
  · simp only [rn]
    rw [run_eq, g45_0_1_eq, g45_0_1]
    simp
theorem s14 : ∀ (N : Nat) (ds : List D), SizeOf.sizeOf ds < N → WL H ds L26 → ∀ b, Bd b → rn ⟨14, 0, 0⟩ (ds ++ [.int b]) = some (0, [.int (sub b (szL ds))])
  | 0, ds, hN, _, _, _ => absurd hN (Nat.not_lt_zero _)
  | N + 1, ds, hN, h, b, hb => by
    have h0 := h
    obtain ⟨a0, a1, a2, a3, rfl, b2, b3, c3⟩ := wl26 h
    show run H Try.prog ⟨14, 0, 0⟩ [D.int a0, D.int a1, D.str a2, D.sl a3, .int b] = _
    rw [run_eq, g14_0_0_eq, g14_0_0]
    rcases sz_case hb b2 with ⟨hh, he⟩ | he
    · simp only [decide_eq_true hh, cond_true, Bool.cond_self]
      exact sub_dead he hb (by simp only [szL, D.sz]; omega)
    simp only [he]
    have e3 := s45 (b := (sub b a2.size)) b3 c3 (fun r hr b hb => s14 N r (by have h1 := size_row hr; simp only [List.cons.sizeOf_spec, D.sl.sizeOf_spec] at hN; omega) (WRs_mem c3 hr) b hb) (Bd.sub hb _)
    simp only [rn] at e3
    simp only [e3, Option.bind_some, nth, List.getD_cons_zero, List.getD_cons_succ, D.I, D.S, D.L, D.B]
    rw [sz_end _ (Bd.sub (Bd.sub hb _) _)]
    rw [sz_step _ (Bd.sub hb _)]
    rw [sub_sub hb]
    exact sub_congr (by simp only [szL, D.sz] <;> omega)
theorem s67 {ds : List D} (h : WL H ds L103) {b : Int} (hb : Bd b) : rn ⟨67, 0, 0⟩ (ds ++ [.int b]) = some (0, [.int (sub b (szL ds))]) := by
  have h0 := h
  obtain ⟨a0, a1, a2, a3, a4, rfl, b0, b3, b4, c4⟩ := wl103 h
  show run H Try.prog ⟨67, 0, 0⟩ [D.str a0, D.int a1, D.int a2, D.str a3, D.sl a4, .int b] = _
  rw [run_eq, g67_0_0_eq, g67_0_0]
  rcases sz_case hb b0 with ⟨hh, he⟩ | he
  · simp only [decide_eq_true hh, cond_true, Bool.cond_self]
    exact sub_dead he hb (by simp only [szL, D.sz]; omega)
  simp only [he]
  have w1 : WL H [D.int a1, D.int a2, D.str a3, D.sl a4] L26 := WL.part 1 4 h0
  have e1 := s14 _ _ (Nat.lt_succ_self _) w1 (sub b a0.size) (Bd.sub hb _)
  simp only [List.cons_append, List.nil_append] at e1
  simp only [rn] at e1
  simp only [e1, Option.bind_some, nth, List.getD_cons_zero, List.getD_cons_succ, D.I, D.S, D.L, D.B]
  rw [sz_end _ (Bd.sub (Bd.sub hb _) _)]
  rw [sz_step _ (Bd.sub hb _)]
  rw [sub_sub hb]
  exact sub_congr (by simp only [szL, D.sz] <;> omega)
theorem s30 {rs : Rows} (hl : rs.length ≤ maxLen) (hW : WRs H rs L103) {b : Int} (hb : Bd b) : rn ⟨30, 0, 0⟩ [.sl rs, .int b] = some (0, [.int (sub b (D.sz (.sl rs)))]) := by
  show run H Try.prog ⟨30, 0, 0⟩ _ = _
  rw [run_eq, g30_0_0_eq, g30_0_0]
  simp only [D.sz]
  refine sz_pay hb hl (F := fun c => (run H Try.prog ⟨30, 0, 1⟩ [.sl rs, .int c, .int 0]).bind fun r1 => bif Nat.beq r1.1 0 then some (0, [.int ((nth r1.2 0).I)]) else bif Nat.beq r1.1 1 then some (0, [.int ((nth r1.2 0).I)]) else none) fun c hc h0 => ?_
  have := sz_loop (F := fun i b => rn ⟨30, 0, 1⟩ [.sl rs, .int b, .int (i : Int)]) (rows := rs) (fun i hi b hb h0 => ?_) (fun b hb => ?_) hc h0
  · simp only [Int.natCast_zero] at this
    show ((rn _ _).bind _ = _)
    rw [this]
    split
    · rfl
    · rename_i hh; rw [sub_neg _ (by omega)]; rfl
  · have hw := WRs_mem hW (List.getElem_mem hi)
    obtain ⟨a0, a1, a2, a3, a4, hr, b0, b3, b4, c4⟩ := wl103 hw
    rw [hr] at hw
    have hc := s67 hw hb
    rw [← hr] at hc
    generalize hq : szL rs[i] = q at hc ⊢
    rw [hr] at hc
    simp only [List.cons_append, List.nil_append, rn] at hc
    simp only [rn]
    rw [run_eq, g30_0_1_eq, g30_0_1]
    simp only [Int.toNat_natCast, rowAt_eq hi, hr, inbN, hi, decide_true, cond_true, Int.ofNat_lt, nth, List.getD_cons_zero, List.getD_cons_succ, D.I, D.S, D.L, D.B, wrap_succ hi hl]
    rw [hc]
    simp only [Option.bind_some, nth, List.getD_cons_zero, List.getD_cons_succ, D.I, D.S, D.L, D.B]
    by_cases hq : 0 ≤ sub b q
    · rw [if_pos hq, decide_eq_false (by omega)]; rfl
    · rw [if_neg hq, decide_eq_true (by omega)]; rfl
  · simp only [rn]
    rw [run_eq, g30_0_1_eq, g30_0_1]
    simp
def L124 : List CT := [.int .i64, .int .i64, .int .i64, .str, .sl 26, .int .i64, .int .i64, .str, .sl 26]
theorem ty124 : H.ty 124 = some ⟨true, L124, [(0, 3), (1, 26), (5, 26)]⟩ := by kernel_rfl
theorem wl124 {ds : List D} (h : WL H ds L124) : ∃ a0 a1 a2 a3 a4 a5 a6 a7 a8, ds = [D.int a0, D.int a1, D.int a2, D.str a3, D.sl a4, D.int a5, D.int a6, D.str a7, D.sl a8] ∧ a3.size ≤ maxLen ∧ a4.length ≤ maxLen ∧ WRs H a4 L26 ∧ a7.size ≤ maxLen ∧ a8.length ≤ maxLen ∧ WRs H a8 L26 := by
  unfold L124 at h
  obtain ⟨a0, _, rfl, _, h⟩ := wl_int h
  obtain ⟨a1, _, rfl, _, h⟩ := wl_int h
  obtain ⟨a2, _, rfl, _, h⟩ := wl_int h
  obtain ⟨a3, _, rfl, b3, h⟩ := wl_str h
  obtain ⟨a4, _, rfl, b4, c4, h⟩ := wl_sl ty26 h
  obtain ⟨a5, _, rfl, _, h⟩ := wl_int h
  obtain ⟨a6, _, rfl, _, h⟩ := wl_int h
  obtain ⟨a7, _, rfl, b7, h⟩ := wl_str h
  obtain ⟨a8, _, rfl, b8, c8, h⟩ := wl_sl ty26 h
  obtain rfl := wl_nil h
  exact ⟨a0, a1, a2, a3, a4, a5, a6, a7, a8, rfl, b3, b4, c4, b7, b8, c8⟩
def L38 : List CT := [.sl 9, .int .i64, .int .i64, .str, .sl 26, .int .i64, .int .i64, .str, .sl 26, .sl 124]
theorem ty38 : H.ty 38 = some ⟨true, L38, [(0, 35), (1, 26), (5, 26), (9, 36)]⟩ := by kernel_rfl
theorem wl38 {ds : List D} (h : WL H ds L38) : ∃ a0 a1 a2 a3 a4 a5 a6 a7 a8 a9, ds = [D.sl a0, D.int a1, D.int a2, D.str a3, D.sl a4, D.int a5, D.int a6, D.str a7, D.sl a8, D.sl a9] ∧ a0.length ≤ maxLen ∧ WRs H a0 L9 ∧ a3.size ≤ maxLen ∧ a4.length ≤ maxLen ∧ WRs H a4 L26 ∧ a7.size ≤ maxLen ∧ a8.length ≤ maxLen ∧ WRs H a8 L26 ∧ a9.length ≤ maxLen ∧ WRs H a9 L124 := by
  unfold L38 at h
  obtain ⟨a0, _, rfl, b0, c0, h⟩ := wl_sl ty9 h
  obtain ⟨a1, _, rfl, _, h⟩ := wl_int h
  obtain ⟨a2, _, rfl, _, h⟩ := wl_int h
  obtain ⟨a3, _, rfl, b3, h⟩ := wl_str h
  obtain ⟨a4, _, rfl, b4, c4, h⟩ := wl_sl ty26 h
  obtain ⟨a5, _, rfl, _, h⟩ := wl_int h
  obtain ⟨a6, _, rfl, _, h⟩ := wl_int h
  obtain ⟨a7, _, rfl, b7, h⟩ := wl_str h
  obtain ⟨a8, _, rfl, b8, c8, h⟩ := wl_sl ty26 h
  obtain ⟨a9, _, rfl, b9, c9, h⟩ := wl_sl ty124 h
  obtain rfl := wl_nil h
  exact ⟨a0, a1, a2, a3, a4, a5, a6, a7, a8, a9, rfl, b0, c0, b3, b4, c4, b7, b8, c8, b9, c9⟩
theorem s29 {rs : Rows} (hl : rs.length ≤ maxLen) (hW : WRs H rs L9) {b : Int} (hb : Bd b) : rn ⟨29, 0, 0⟩ [.sl rs, .int b] = some (0, [.int (sub b (D.sz (.sl rs)))]) := by
  show run H Try.prog ⟨29, 0, 0⟩ _ = _
  rw [run_eq, g29_0_0_eq, g29_0_0]
  simp only [D.sz]
  refine sz_pay hb hl (F := fun c => (run H Try.prog ⟨29, 0, 1⟩ [.sl rs, .int c, .int 0]).bind fun r1 => bif Nat.beq r1.1 0 then some (0, [.int ((nth r1.2 0).I)]) else bif Nat.beq r1.1 1 then some (0, [.int ((nth r1.2 0).I)]) else none) fun c hc h0 => ?_
  have := sz_loop (F := fun i b => rn ⟨29, 0, 1⟩ [.sl rs, .int b, .int (i : Int)]) (rows := rs) (fun i hi b hb h0 => ?_) (fun b hb => ?_) hc h0
  · simp only [Int.natCast_zero] at this
    show ((rn _ _).bind _ = _)
    rw [this]
    split
    · rfl
    · rename_i hh; rw [sub_neg _ (by omega)]; rfl
  · have hw := WRs_mem hW (List.getElem_mem hi)
    obtain ⟨a0, hr, b0⟩ := wl9 hw
    rw [hr] at hw
    have hz : szL [.str a0] = a0.size := by simp only [szL, D.sz]; rfl
    have hq : szL rs[i] = a0.size := by rw [hr]; simp only [szL, D.sz]; omega
    rw [hq]
    simp only [rn]
    rw [run_eq, g29_0_1_eq, g29_0_1]
    simp only [Int.toNat_natCast, rowAt_eq hi, hr, inbN, hi, decide_true, cond_true, Int.ofNat_lt, nth, List.getD_cons_zero, List.getD_cons_succ, D.I, D.S, D.L, D.B, wrap_succ hi hl]
    rcases sz_case hb b0 with ⟨hh, he⟩ | he
    · rw [decide_eq_true hh, if_neg (by rw [he]; decide)]; rfl
    · rw [he]
      by_cases hq : 0 ≤ sub b a0.size
      · rw [if_pos hq, decide_eq_false (by omega)]; rfl
      · rw [if_neg hq, decide_eq_true (by omega)]; rfl
  · simp only [rn]
    rw [run_eq, g29_0_1_eq, g29_0_1]
    simp
theorem s85 {ds : List D} (h : WL H ds L124) {b : Int} (hb : Bd b) : rn ⟨85, 0, 0⟩ (ds ++ [.int b]) = some (0, [.int (sub b (szL ds))]) := by
  have h0 := h
  obtain ⟨a0, a1, a2, a3, a4, a5, a6, a7, a8, rfl, b3, b4, c4, b7, b8, c8⟩ := wl124 h
  show run H Try.prog ⟨85, 0, 0⟩ [D.int a0, D.int a1, D.int a2, D.str a3, D.sl a4, D.int a5, D.int a6, D.str a7, D.sl a8, .int b] = _
  rw [run_eq, g85_0_0_eq, g85_0_0]
  have w1 : WL H [D.int a1, D.int a2, D.str a3, D.sl a4] L26 := WL.part 1 4 h0
  have e1 := s14 _ _ (Nat.lt_succ_self _) w1 b hb
  simp only [List.cons_append, List.nil_append] at e1
  simp only [rn] at e1
  simp only [e1, Option.bind_some, nth, List.getD_cons_zero, List.getD_cons_succ, D.I, D.S, D.L, D.B]
  have w5 : WL H [D.int a5, D.int a6, D.str a7, D.sl a8] L26 := WL.part 5 4 h0
  have e5 := s14 _ _ (Nat.lt_succ_self _) w5 (sub b (szL [D.int a1, D.int a2, D.str a3, D.sl a4])) (Bd.sub hb _)
  simp only [List.cons_append, List.nil_append] at e5
  simp only [rn] at e5
  simp only [e5, Option.bind_some, nth, List.getD_cons_zero, List.getD_cons_succ, D.I, D.S, D.L, D.B]
  rw [sz_end _ (Bd.sub (Bd.sub hb _) _)]
  rw [sz_step _ (Bd.sub hb _)]
  rw [sub_sub hb]
  exact sub_congr (by simp only [szL, D.sz] <;> omega)
theorem s50 {rs : Rows} (hl : rs.length ≤ maxLen) (hW : WRs H rs L124) {b : Int} (hb : Bd b) : rn ⟨50, 0, 0⟩ [.sl rs, .int b] = some (0, [.int (sub b (D.sz (.sl rs)))]) := by
  show run H Try.prog ⟨50, 0, 0⟩ _ = _
  rw [run_eq, g50_0_0_eq, g50_0_0]
  simp only [D.sz]
  refine sz_pay hb hl (F := fun c => (run H Try.prog ⟨50, 0, 1⟩ [.sl rs, .int c, .int 0]).bind fun r1 => bif Nat.beq r1.1 0 then some (0, [.int ((nth r1.2 0).I)]) else bif Nat.beq r1.1 1 then some (0, [.int ((nth r1.2 0).I)]) else none) fun c hc h0 => ?_
  have := sz_loop (F := fun i b => rn ⟨50, 0, 1⟩ [.sl rs, .int b, .int (i : Int)]) (rows := rs) (fun i hi b hb h0 => ?_) (fun b hb => ?_) hc h0
  · simp only [Int.natCast_zero] at this
    show ((rn _ _).bind _ = _)
    rw [this]
    split
    · rfl
    · rename_i hh; rw [sub_neg _ (by omega)]; rfl
  · have hw := WRs_mem hW (List.getElem_mem hi)
    obtain ⟨a0, a1, a2, a3, a4, a5, a6, a7, a8, hr, b3, b4, c4, b7, b8, c8⟩ := wl124 hw
    rw [hr] at hw
    have hc := s85 hw hb
    rw [← hr] at hc
    generalize hq : szL rs[i] = q at hc ⊢
    rw [hr] at hc
    simp only [List.cons_append, List.nil_append, rn] at hc
    simp only [rn]
    rw [run_eq, g50_0_1_eq, g50_0_1]
    simp only [Int.toNat_natCast, rowAt_eq hi, hr, inbN, hi, decide_true, cond_true, Int.ofNat_lt, nth, List.getD_cons_zero, List.getD_cons_succ, D.I, D.S, D.L, D.B, wrap_succ hi hl]
    rw [hc]
    simp only [Option.bind_some, nth, List.getD_cons_zero, List.getD_cons_succ, D.I, D.S, D.L, D.B]
    by_cases hq : 0 ≤ sub b q
    · rw [if_pos hq, decide_eq_false (by omega)]; rfl
    · rw [if_neg hq, decide_eq_true (by omega)]; rfl
  · simp only [rn]
    rw [run_eq, g50_0_1_eq, g50_0_1]
    simp
theorem s19 {ds : List D} (h : WL H ds L38) {b : Int} (hb : Bd b) : rn ⟨19, 0, 0⟩ (ds ++ [.int b]) = some (0, [.int (sub b (szL ds))]) := by
  have h0 := h
  obtain ⟨a0, a1, a2, a3, a4, a5, a6, a7, a8, a9, rfl, b0, c0, b3, b4, c4, b7, b8, c8, b9, c9⟩ := wl38 h
  show run H Try.prog ⟨19, 0, 0⟩ [D.sl a0, D.int a1, D.int a2, D.str a3, D.sl a4, D.int a5, D.int a6, D.str a7, D.sl a8, D.sl a9, .int b] = _
  rw [run_eq, g19_0_0_eq, g19_0_0]
  have e0 := s29 (b := b) b0 c0 hb
  simp only [rn] at e0
  simp only [e0, Option.bind_some, nth, List.getD_cons_zero, List.getD_cons_succ, D.I, D.S, D.L, D.B]
  have w1 : WL H [D.int a1, D.int a2, D.str a3, D.sl a4] L26 := WL.part 1 4 h0
  have e1 := s14 _ _ (Nat.lt_succ_self _) w1 (sub b (D.sz (.sl a0))) (Bd.sub hb _)
  simp only [List.cons_append, List.nil_append] at e1
  simp only [rn] at e1
  simp only [e1, Option.bind_some, nth, List.getD_cons_zero, List.getD_cons_succ, D.I, D.S, D.L, D.B]
  have w5 : WL H [D.int a5, D.int a6, D.str a7, D.sl a8] L26 := WL.part 5 4 h0
  have e5 := s14 _ _ (Nat.lt_succ_self _) w5 (sub (sub b (D.sz (.sl a0))) (szL [D.int a1, D.int a2, D.str a3, D.sl a4])) (Bd.sub (Bd.sub hb _) _)
  simp only [List.cons_append, List.nil_append] at e5
  simp only [rn] at e5
  simp only [e5, Option.bind_some, nth, List.getD_cons_zero, List.getD_cons_succ, D.I, D.S, D.L, D.B]
  have e9 := s50 (b := (sub (sub (sub b (D.sz (.sl a0))) (szL [D.int a1, D.int a2, D.str a3, D.sl a4])) (szL [D.int a5, D.int a6, D.str a7, D.sl a8]))) b9 c9 (Bd.sub (Bd.sub (Bd.sub hb _) _) _)
  simp only [rn] at e9
  simp only [e9, Option.bind_some, nth, List.getD_cons_zero, List.getD_cons_succ, D.I, D.S, D.L, D.B]
  rw [sz_end _ (Bd.sub (Bd.sub (Bd.sub (Bd.sub hb _) _) _) _)]
  rw [sz_step _ (Bd.sub (Bd.sub (Bd.sub hb _) _) _)]
  rw [sub_sub (Bd.sub (Bd.sub hb _) _)]
  rw [sz_step _ (Bd.sub (Bd.sub hb _) _)]
  rw [sub_sub (Bd.sub hb _)]
  rw [sz_step _ (Bd.sub hb _)]
  rw [sub_sub hb]
  exact sub_congr (by simp only [szL, D.sz] <;> omega)
theorem s106 {rs : Rows} (hl : rs.length ≤ maxLen) (hW : WRs H rs L3) {b : Int} (hb : Bd b) : rn ⟨106, 0, 0⟩ [.sl rs, .int b] = some (0, [.int (sub b (D.sz (.sl rs)))]) := by
  show run H Try.prog ⟨106, 0, 0⟩ _ = _
  rw [run_eq, g106_0_0_eq, g106_0_0]
  simp only [D.sz]
  have hz : szR rs = 0 := by
    have : ∀ (l : Rows), WRs H l L3 → szR l = 0 := fun l => by
      induction l with
      | nil => intro _; rfl
      | cons r l ih =>
        intro hw
        simp only [WRs] at hw
        obtain ⟨a0, rfl⟩ := wl3 hw.1
        simp only [szR, szL, D.sz, ih hw.2]
    exact this rs hW
  rw [hz]
  exact sz_pay0 hb hl
def L129 : List CT := [.int .i64, .sl 3, .int .i64, .sl 103]
theorem ty129 : H.ty 129 = some ⟨true, L129, [(0, 3), (1, 93), (2, 3), (3, 56)]⟩ := by kernel_rfl
theorem wl129 {ds : List D} (h : WL H ds L129) : ∃ a0 a1 a2 a3, ds = [D.int a0, D.sl a1, D.int a2, D.sl a3] ∧ a1.length ≤ maxLen ∧ WRs H a1 L3 ∧ a3.length ≤ maxLen ∧ WRs H a3 L103 := by
  unfold L129 at h
  obtain ⟨a0, _, rfl, _, h⟩ := wl_int h
  obtain ⟨a1, _, rfl, b1, c1, h⟩ := wl_sl ty3 h
  obtain ⟨a2, _, rfl, _, h⟩ := wl_int h
  obtain ⟨a3, _, rfl, b3, c3, h⟩ := wl_sl ty103 h
  obtain rfl := wl_nil h
  exact ⟨a0, a1, a2, a3, rfl, b1, c1, b3, c3⟩
def L48 : List CT := [.sl 129]
theorem ty48 : H.ty 48 = some ⟨true, L48, [(0, 46)]⟩ := by kernel_rfl
theorem wl48 {ds : List D} (h : WL H ds L48) : ∃ a0, ds = [D.sl a0] ∧ a0.length ≤ maxLen ∧ WRs H a0 L129 := by
  unfold L48 at h
  obtain ⟨a0, _, rfl, b0, c0, h⟩ := wl_sl ty129 h
  obtain rfl := wl_nil h
  exact ⟨a0, rfl, b0, c0⟩
theorem s90 {ds : List D} (h : WL H ds L129) {b : Int} (hb : Bd b) : rn ⟨90, 0, 0⟩ (ds ++ [.int b]) = some (0, [.int (sub b (szL ds))]) := by
  have h0 := h
  obtain ⟨a0, a1, a2, a3, rfl, b1, c1, b3, c3⟩ := wl129 h
  show run H Try.prog ⟨90, 0, 0⟩ [D.int a0, D.sl a1, D.int a2, D.sl a3, .int b] = _
  rw [run_eq, g90_0_0_eq, g90_0_0]
  have e1 := s106 (b := b) b1 c1 hb
  simp only [rn] at e1
  simp only [e1, Option.bind_some, nth, List.getD_cons_zero, List.getD_cons_succ, D.I, D.S, D.L, D.B]
  have e3 := s30 (b := (sub b (D.sz (.sl a1)))) b3 c3 (Bd.sub hb _)
  simp only [rn] at e3
  simp only [e3, Option.bind_some, nth, List.getD_cons_zero, List.getD_cons_succ, D.I, D.S, D.L, D.B]
  rw [sz_end _ (Bd.sub (Bd.sub hb _) _)]
  rw [sz_step _ (Bd.sub hb _)]
  rw [sub_sub hb]
  exact sub_congr (by simp only [szL, D.sz] <;> omega)
theorem s60 {rs : Rows} (hl : rs.length ≤ maxLen) (hW : WRs H rs L129) {b : Int} (hb : Bd b) : rn ⟨60, 0, 0⟩ [.sl rs, .int b] = some (0, [.int (sub b (D.sz (.sl rs)))]) := by
  show run H Try.prog ⟨60, 0, 0⟩ _ = _
  rw [run_eq, g60_0_0_eq, g60_0_0]
  simp only [D.sz]
  refine sz_pay hb hl (F := fun c => (run H Try.prog ⟨60, 0, 1⟩ [.sl rs, .int c, .int 0]).bind fun r1 => bif Nat.beq r1.1 0 then some (0, [.int ((nth r1.2 0).I)]) else bif Nat.beq r1.1 1 then some (0, [.int ((nth r1.2 0).I)]) else none) fun c hc h0 => ?_
  have := sz_loop (F := fun i b => rn ⟨60, 0, 1⟩ [.sl rs, .int b, .int (i : Int)]) (rows := rs) (fun i hi b hb h0 => ?_) (fun b hb => ?_) hc h0
  · simp only [Int.natCast_zero] at this
    show ((rn _ _).bind _ = _)
    rw [this]
    split
    · rfl
    · rename_i hh; rw [sub_neg _ (by omega)]; rfl
  · have hw := WRs_mem hW (List.getElem_mem hi)
    obtain ⟨a0, a1, a2, a3, hr, b1, c1, b3, c3⟩ := wl129 hw
    rw [hr] at hw
    have hc := s90 hw hb
    rw [← hr] at hc
    generalize hq : szL rs[i] = q at hc ⊢
    rw [hr] at hc
    simp only [List.cons_append, List.nil_append, rn] at hc
    simp only [rn]
    rw [run_eq, g60_0_1_eq, g60_0_1]
    simp only [Int.toNat_natCast, rowAt_eq hi, hr, inbN, hi, decide_true, cond_true, Int.ofNat_lt, nth, List.getD_cons_zero, List.getD_cons_succ, D.I, D.S, D.L, D.B, wrap_succ hi hl]
    rw [hc]
    simp only [Option.bind_some, nth, List.getD_cons_zero, List.getD_cons_succ, D.I, D.S, D.L, D.B]
    by_cases hq : 0 ≤ sub b q
    · rw [if_pos hq, decide_eq_false (by omega)]; rfl
    · rw [if_neg hq, decide_eq_true (by omega)]; rfl
  · simp only [rn]
    rw [run_eq, g60_0_1_eq, g60_0_1]
    simp
theorem s24 {ds : List D} (h : WL H ds L48) {b : Int} (hb : Bd b) : rn ⟨24, 0, 0⟩ (ds ++ [.int b]) = some (0, [.int (sub b (szL ds))]) := by
  have h0 := h
  obtain ⟨a0, rfl, b0, c0⟩ := wl48 h
  show run H Try.prog ⟨24, 0, 0⟩ [D.sl a0, .int b] = _
  rw [run_eq, g24_0_0_eq, g24_0_0]
  have e0 := s60 (b := b) b0 c0 hb
  simp only [rn] at e0
  simp only [e0, Option.bind_some, nth, List.getD_cons_zero, List.getD_cons_succ, D.I, D.S, D.L, D.B]
  rw [sz_end _ (Bd.sub hb _)]
  exact sub_congr (by simp only [szL, D.sz] <;> omega)
theorem s80 {rs : Rows} (hl : rs.length ≤ maxLen) (hW : WRs H rs L48) {b : Int} (hb : Bd b) : rn ⟨80, 0, 0⟩ [.sl rs, .int b] = some (0, [.int (sub b (D.sz (.sl rs)))]) := by
  show run H Try.prog ⟨80, 0, 0⟩ _ = _
  rw [run_eq, g80_0_0_eq, g80_0_0]
  simp only [D.sz]
  refine sz_pay hb hl (F := fun c => (run H Try.prog ⟨80, 0, 1⟩ [.sl rs, .int c, .int 0]).bind fun r1 => bif Nat.beq r1.1 0 then some (0, [.int ((nth r1.2 0).I)]) else bif Nat.beq r1.1 1 then some (0, [.int ((nth r1.2 0).I)]) else none) fun c hc h0 => ?_
  have := sz_loop (F := fun i b => rn ⟨80, 0, 1⟩ [.sl rs, .int b, .int (i : Int)]) (rows := rs) (fun i hi b hb h0 => ?_) (fun b hb => ?_) hc h0
  · simp only [Int.natCast_zero] at this
    show ((rn _ _).bind _ = _)
    rw [this]
    split
    · rfl
    · rename_i hh; rw [sub_neg _ (by omega)]; rfl
  · have hw := WRs_mem hW (List.getElem_mem hi)
    obtain ⟨a0, hr, b0, c0⟩ := wl48 hw
    rw [hr] at hw
    have hc := s24 hw hb
    rw [← hr] at hc
    generalize hq : szL rs[i] = q at hc ⊢
    rw [hr] at hc
    simp only [List.cons_append, List.nil_append, rn] at hc
    simp only [rn]
    rw [run_eq, g80_0_1_eq, g80_0_1]
    simp only [Int.toNat_natCast, rowAt_eq hi, hr, inbN, hi, decide_true, cond_true, Int.ofNat_lt, nth, List.getD_cons_zero, List.getD_cons_succ, D.I, D.S, D.L, D.B, wrap_succ hi hl]
    rw [hc]
    simp only [Option.bind_some, nth, List.getD_cons_zero, List.getD_cons_succ, D.I, D.S, D.L, D.B]
    by_cases hq : 0 ≤ sub b q
    · rw [if_pos hq, decide_eq_false (by omega)]; rfl
    · rw [if_neg hq, decide_eq_true (by omega)]; rfl
  · simp only [rn]
    rw [run_eq, g80_0_1_eq, g80_0_1]
    simp
def L69 : List CT := [.int .i64, .sl 48, .int .i64, .int .i64]
theorem ty69 : H.ty 69 = some ⟨true, L69, [(0, 3), (1, 67), (2, 3), (3, 3)]⟩ := by kernel_rfl
theorem wl69 {ds : List D} (h : WL H ds L69) : ∃ a0 a1 a2 a3, ds = [D.int a0, D.sl a1, D.int a2, D.int a3] ∧ a1.length ≤ maxLen ∧ WRs H a1 L48 := by
  unfold L69 at h
  obtain ⟨a0, _, rfl, _, h⟩ := wl_int h
  obtain ⟨a1, _, rfl, b1, c1, h⟩ := wl_sl ty48 h
  obtain ⟨a2, _, rfl, _, h⟩ := wl_int h
  obtain ⟨a3, _, rfl, _, h⟩ := wl_int h
  obtain rfl := wl_nil h
  exact ⟨a0, a1, a2, a3, rfl, b1, c1⟩
theorem s37 {ds : List D} (h : WL H ds L69) {b : Int} (hb : Bd b) : rn ⟨37, 0, 0⟩ (ds ++ [.int b]) = some (0, [.int (sub b (szL ds))]) := by
  have h0 := h
  obtain ⟨a0, a1, a2, a3, rfl, b1, c1⟩ := wl69 h
  show run H Try.prog ⟨37, 0, 0⟩ [D.int a0, D.sl a1, D.int a2, D.int a3, .int b] = _
  rw [run_eq, g37_0_0_eq, g37_0_0]
  have e1 := s80 (b := b) b1 c1 hb
  simp only [rn] at e1
  simp only [e1, Option.bind_some, nth, List.getD_cons_zero, List.getD_cons_succ, D.I, D.S, D.L, D.B]
  rw [sz_end _ (Bd.sub hb _)]
  exact sub_congr (by simp only [szL, D.sz] <;> omega)
theorem c46 {rs : Rows} (hz : rs.length + szR rs ≤ 1048576) (hW : WRs H rs L26) {N : Nat} (hN : ∀ r ∈ rs, SizeOf.sizeOf r < N) (hel : ∀ (a0 : Int) (a1 : Int) (a2 : ByteArray) (a3 : Rows), SizeOf.sizeOf ([D.int a0, D.int a1, D.str a2, D.sl a3] : List D) < N → szL [D.int a0, D.int a1, D.str a2, D.sl a3] ≤ 1048576 → WL H [D.int a0, D.int a1, D.str a2, D.sl a3] L26 → rn ⟨16, 0, 0⟩ [D.int a0, D.int a1, D.str a2, D.sl a3] = some (0, [D.int a0, D.int a1, D.str a2, D.sl a3])) : rn ⟨46, 0, 0⟩ [.sl rs] = some (0, [.sl rs]) := by
  show run H Try.prog ⟨46, 0, 0⟩ _ = _
  rw [run_eq, g46_0_0_eq, g46_0_0]
  have hf := fill_loop (F := fun i y => rn ⟨46, 0, 1⟩ [.sl rs, .int (i : Int), .sl y]) (rows := rs) (w := 4) (z := [.int 0, .int 0, .str (⟨#[]⟩ : ByteArray), .sl []]) rfl (fun r hr => (WRs_mem hW hr).len) (fun i hi y hy hyw => ?_) (fun y => ?_)
  · simp only [rn, Int.natCast_zero] at hf
    rw [decide_eq_true (by omega : (0 : Int) ≤ (rs.length : Int)), decide_eq_true (by unfold M63; omega : (rs.length : Int) ≤ (M63 : Int)), decide_eq_true rfl]
    simp only [Bool.and_self, cond_true, Int.toNat_natCast]
    rw [hf]
    rfl
  · have hw := WRs_mem hW (List.getElem_mem hi)
    have hzi := szR_mem (List.getElem_mem hi)
    obtain ⟨a0, a1, a2, a3, hr, b2, b3, c3⟩ := wl26 hw
    have hNi := hN _ (List.getElem_mem hi)
    rw [hr] at hw hzi hNi
    have hc := hel a0 a1 a2 a3 hNi (by omega) hw
    simp only [rn] at hc
    simp only [rn]
    rw [run_eq, g46_0_1_eq, g46_0_1]
    have hlen : rs.length ≤ maxLen := by unfold maxLen; omega
    have hi2 : i < y.length := by omega
    have hov : ∀ l : List D, l.length = 4 → over 0 l (rowAt y i) = l := fun l hl => over0_eq (by rw [rowAt_eq hi2, hyw _ (List.getElem_mem hi2), hl])
    simp only [Int.toNat_natCast, rowAt_eq hi, hr, inbN, hi, hi2, decide_true, cond_true, Int.ofNat_lt, nth, List.getD_cons_zero, List.getD_cons_succ, D.I, D.S, D.L, D.B, wrap_succ hi hlen]
    simp only [hc, Option.bind_some, nth, List.getD_cons_zero, List.getD_cons_succ, D.I, D.S, D.L, D.B]
    rw [hov _ rfl]
  · simp only [rn]
    rw [run_eq, g46_0_1_eq, g46_0_1]
    simp
theorem c16 : ∀ (N : Nat) (a0 : Int) (a1 : Int) (a2 : ByteArray) (a3 : Rows), SizeOf.sizeOf ([D.int a0, D.int a1, D.str a2, D.sl a3] : List D) < N → szL [D.int a0, D.int a1, D.str a2, D.sl a3] ≤ 1048576 → WL H [D.int a0, D.int a1, D.str a2, D.sl a3] L26 → rn ⟨16, 0, 0⟩ [D.int a0, D.int a1, D.str a2, D.sl a3] = some (0, [D.int a0, D.int a1, D.str a2, D.sl a3])
  | 0, a0, a1, a2, a3, hN, _, _ => absurd hN (Nat.not_lt_zero _)
  | N + 1, a0, a1, a2, a3, hN, hz, h => by
    obtain ⟨x0, x1, x2, x3, hh, bx2, bx3, cx3⟩ := wl26 h
    simp only [List.cons.injEq, D.int.injEq, D.bool.injEq, D.str.injEq, D.sl.injEq, and_true] at hh
    obtain ⟨rfl, rfl, rfl, rfl⟩ := hh
    show run H Try.prog ⟨16, 0, 0⟩ _ = _
    rw [run_eq, g16_0_0_eq, g16_0_0]
    simp only [szL, D.sz] at hz
    have e3 : rn ⟨46, 0, 0⟩ [.sl a3] = some (0, [.sl a3]) := c46 (by omega) cx3 (N := N) (fun r hr => by have h1 := size_row hr; simp only [List.cons.sizeOf_spec, D.sl.sizeOf_spec] at hN; omega) (c16 N)
    simp only [rn] at e3
    simp only [e3, Option.bind_some, nth, List.getD_cons_zero, List.getD_cons_succ, D.I, D.S, D.L, D.B]
theorem c72 {a0 : ByteArray} {a1 : Int} {a2 : Int} {a3 : ByteArray} {a4 : Rows} (hz : szL [D.str a0, D.int a1, D.int a2, D.str a3, D.sl a4] ≤ 1048576) (h : WL H [D.str a0, D.int a1, D.int a2, D.str a3, D.sl a4] L103) : rn ⟨72, 0, 0⟩ [D.str a0, D.int a1, D.int a2, D.str a3, D.sl a4] = some (0, [D.str a0, D.int a1, D.int a2, D.str a3, D.sl a4]) := by
  obtain ⟨x0, x1, x2, x3, x4, hh, bx0, bx3, bx4, cx4⟩ := wl103 h
  simp only [List.cons.injEq, D.int.injEq, D.bool.injEq, D.str.injEq, D.sl.injEq, and_true] at hh
  obtain ⟨rfl, rfl, rfl, rfl, rfl⟩ := hh
  show run H Try.prog ⟨72, 0, 0⟩ _ = _
  rw [run_eq, g72_0_0_eq, g72_0_0]
  simp only [szL, D.sz] at hz
  have w1 : WL H [D.int a1, D.int a2, D.str a3, D.sl a4] L26 := WL.part 1 4 h
  have e1 := c16 _ a1 a2 a3 a4 (Nat.lt_succ_self _) (by simp only [szL, D.sz]; omega) w1
  simp only [rn] at e1
  simp only [e1, Option.bind_some, nth, List.getD_cons_zero, List.getD_cons_succ, D.I, D.S, D.L, D.B]
theorem c33 {rs : Rows} (hz : rs.length + szR rs ≤ 1048576) (hW : WRs H rs L103) : rn ⟨33, 0, 0⟩ [.sl rs] = some (0, [.sl rs]) := by
  show run H Try.prog ⟨33, 0, 0⟩ _ = _
  rw [run_eq, g33_0_0_eq, g33_0_0]
  have hf := fill_loop (F := fun i y => rn ⟨33, 0, 1⟩ [.sl rs, .int (i : Int), .sl y]) (rows := rs) (w := 5) (z := [.str (⟨#[]⟩ : ByteArray), .int 0, .int 0, .str (⟨#[]⟩ : ByteArray), .sl []]) rfl (fun r hr => (WRs_mem hW hr).len) (fun i hi y hy hyw => ?_) (fun y => ?_)
  · simp only [rn, Int.natCast_zero] at hf
    rw [decide_eq_true (by omega : (0 : Int) ≤ (rs.length : Int)), decide_eq_true (by unfold M63; omega : (rs.length : Int) ≤ (M63 : Int)), decide_eq_true rfl]
    simp only [Bool.and_self, cond_true, Int.toNat_natCast]
    rw [hf]
    rfl
  · have hw := WRs_mem hW (List.getElem_mem hi)
    have hzi := szR_mem (List.getElem_mem hi)
    obtain ⟨a0, a1, a2, a3, a4, hr, b0, b3, b4, c4⟩ := wl103 hw
    rw [hr] at hw hzi
    have hc := c72 (by omega) hw
    simp only [rn] at hc
    simp only [rn]
    rw [run_eq, g33_0_1_eq, g33_0_1]
    have hlen : rs.length ≤ maxLen := by unfold maxLen; omega
    have hi2 : i < y.length := by omega
    have hov : ∀ l : List D, l.length = 5 → over 0 l (rowAt y i) = l := fun l hl => over0_eq (by rw [rowAt_eq hi2, hyw _ (List.getElem_mem hi2), hl])
    simp only [Int.toNat_natCast, rowAt_eq hi, hr, inbN, hi, hi2, decide_true, cond_true, Int.ofNat_lt, nth, List.getD_cons_zero, List.getD_cons_succ, D.I, D.S, D.L, D.B, wrap_succ hi hlen]
    simp only [hc, Option.bind_some, nth, List.getD_cons_zero, List.getD_cons_succ, D.I, D.S, D.L, D.B]
    rw [hov _ rfl]
  · simp only [rn]
    rw [run_eq, g33_0_1_eq, g33_0_1]
    simp
theorem c32 {rs : Rows} (hz : rs.length + szR rs ≤ 1048576) (hW : WRs H rs L9) : rn ⟨32, 0, 0⟩ [.sl rs] = some (0, [.sl rs]) := by
  show run H Try.prog ⟨32, 0, 0⟩ _ = _
  rw [run_eq, g32_0_0_eq, g32_0_0]
  have hf := fill_loop (F := fun i y => rn ⟨32, 0, 1⟩ [.sl rs, .int (i : Int), .sl y]) (rows := rs) (w := 1) (z := [.str (⟨#[]⟩ : ByteArray)]) rfl (fun r hr => (WRs_mem hW hr).len) (fun i hi y hy hyw => ?_) (fun y => ?_)
  · simp only [rn, Int.natCast_zero] at hf
    rw [decide_eq_true (by omega : (0 : Int) ≤ (rs.length : Int)), decide_eq_true (by unfold M63; omega : (rs.length : Int) ≤ (M63 : Int)), decide_eq_true rfl]
    simp only [Bool.and_self, cond_true, Int.toNat_natCast]
    rw [hf]
    rfl
  · have hw := WRs_mem hW (List.getElem_mem hi)
    have hzi := szR_mem (List.getElem_mem hi)
    obtain ⟨a0, hr, b0⟩ := wl9 hw
    rw [hr] at hw hzi
    simp only [rn]
    rw [run_eq, g32_0_1_eq, g32_0_1]
    have hlen : rs.length ≤ maxLen := by unfold maxLen; omega
    have hi2 : i < y.length := by omega
    have hov : ∀ l : List D, l.length = 1 → over 0 l (rowAt y i) = l := fun l hl => over0_eq (by rw [rowAt_eq hi2, hyw _ (List.getElem_mem hi2), hl])
    simp only [Int.toNat_natCast, rowAt_eq hi, hr, inbN, hi, hi2, decide_true, cond_true, Int.ofNat_lt, nth, List.getD_cons_zero, List.getD_cons_succ, D.I, D.S, D.L, D.B, wrap_succ hi hlen]
    rw [hov _ rfl]
  · simp only [rn]
    rw [run_eq, g32_0_1_eq, g32_0_1]
    simp
theorem c87 {a0 : Int} {a1 : Int} {a2 : Int} {a3 : ByteArray} {a4 : Rows} {a5 : Int} {a6 : Int} {a7 : ByteArray} {a8 : Rows} (hz : szL [D.int a0, D.int a1, D.int a2, D.str a3, D.sl a4, D.int a5, D.int a6, D.str a7, D.sl a8] ≤ 1048576) (h : WL H [D.int a0, D.int a1, D.int a2, D.str a3, D.sl a4, D.int a5, D.int a6, D.str a7, D.sl a8] L124) : rn ⟨87, 0, 0⟩ [D.int a0, D.int a1, D.int a2, D.str a3, D.sl a4, D.int a5, D.int a6, D.str a7, D.sl a8] = some (0, [D.int a0, D.int a1, D.int a2, D.str a3, D.int a5, D.int a6, D.str a7, D.sl a4, D.sl a8]) := by
  obtain ⟨x0, x1, x2, x3, x4, x5, x6, x7, x8, hh, bx3, bx4, cx4, bx7, bx8, cx8⟩ := wl124 h
  simp only [List.cons.injEq, D.int.injEq, D.bool.injEq, D.str.injEq, D.sl.injEq, and_true] at hh
  obtain ⟨rfl, rfl, rfl, rfl, rfl, rfl, rfl, rfl, rfl⟩ := hh
  show run H Try.prog ⟨87, 0, 0⟩ _ = _
  rw [run_eq, g87_0_0_eq, g87_0_0]
  simp only [szL, D.sz] at hz
  have w1 : WL H [D.int a1, D.int a2, D.str a3, D.sl a4] L26 := WL.part 1 4 h
  have e1 := c16 _ a1 a2 a3 a4 (Nat.lt_succ_self _) (by simp only [szL, D.sz]; omega) w1
  simp only [rn] at e1
  have w5 : WL H [D.int a5, D.int a6, D.str a7, D.sl a8] L26 := WL.part 5 4 h
  have e5 := c16 _ a5 a6 a7 a8 (Nat.lt_succ_self _) (by simp only [szL, D.sz]; omega) w5
  simp only [rn] at e5
  simp only [e1, e5, Option.bind_some, nth, List.getD_cons_zero, List.getD_cons_succ, D.I, D.S, D.L, D.B]
theorem c54 {rs : Rows} (hz : rs.length + szR rs ≤ 1048576) (hW : WRs H rs L124) : rn ⟨54, 0, 0⟩ [.sl rs] = some (0, [.sl rs]) := by
  show run H Try.prog ⟨54, 0, 0⟩ _ = _
  rw [run_eq, g54_0_0_eq, g54_0_0]
  have hf := fill_loop (F := fun i y => rn ⟨54, 0, 1⟩ [.sl rs, .int (i : Int), .sl y]) (rows := rs) (w := 9) (z := [.int 0, .int 0, .int 0, .str (⟨#[]⟩ : ByteArray), .sl [], .int 0, .int 0, .str (⟨#[]⟩ : ByteArray), .sl []]) rfl (fun r hr => (WRs_mem hW hr).len) (fun i hi y hy hyw => ?_) (fun y => ?_)
  · simp only [rn, Int.natCast_zero] at hf
    rw [decide_eq_true (by omega : (0 : Int) ≤ (rs.length : Int)), decide_eq_true (by unfold M63; omega : (rs.length : Int) ≤ (M63 : Int)), decide_eq_true rfl]
    simp only [Bool.and_self, cond_true, Int.toNat_natCast]
    rw [hf]
    rfl
  · have hw := WRs_mem hW (List.getElem_mem hi)
    have hzi := szR_mem (List.getElem_mem hi)
    obtain ⟨a0, a1, a2, a3, a4, a5, a6, a7, a8, hr, b3, b4, c4, b7, b8, c8⟩ := wl124 hw
    rw [hr] at hw hzi
    have hc := c87 (by omega) hw
    simp only [rn] at hc
    simp only [rn]
    rw [run_eq, g54_0_1_eq, g54_0_1]
    have hlen : rs.length ≤ maxLen := by unfold maxLen; omega
    have hi2 : i < y.length := by omega
    have hov : ∀ l : List D, l.length = 9 → over 0 l (rowAt y i) = l := fun l hl => over0_eq (by rw [rowAt_eq hi2, hyw _ (List.getElem_mem hi2), hl])
    simp only [Int.toNat_natCast, rowAt_eq hi, hr, inbN, hi, hi2, decide_true, cond_true, Int.ofNat_lt, nth, List.getD_cons_zero, List.getD_cons_succ, D.I, D.S, D.L, D.B, wrap_succ hi hlen]
    simp only [hc, Option.bind_some, nth, List.getD_cons_zero, List.getD_cons_succ, D.I, D.S, D.L, D.B]
    rw [hov _ rfl]
  · simp only [rn]
    rw [run_eq, g54_0_1_eq, g54_0_1]
    simp
theorem c21 {a0 : Rows} {a1 : Int} {a2 : Int} {a3 : ByteArray} {a4 : Rows} {a5 : Int} {a6 : Int} {a7 : ByteArray} {a8 : Rows} {a9 : Rows} (hz : szL [D.sl a0, D.int a1, D.int a2, D.str a3, D.sl a4, D.int a5, D.int a6, D.str a7, D.sl a8, D.sl a9] ≤ 1048576) (h : WL H [D.sl a0, D.int a1, D.int a2, D.str a3, D.sl a4, D.int a5, D.int a6, D.str a7, D.sl a8, D.sl a9] L38) : rn ⟨21, 0, 0⟩ [D.sl a0, D.int a1, D.int a2, D.str a3, D.sl a4, D.int a5, D.int a6, D.str a7, D.sl a8, D.sl a9] = some (0, [D.int a1, D.int a2, D.str a3, D.int a5, D.int a6, D.str a7, D.sl a0, D.sl a4, D.sl a8, D.sl a9]) := by
  obtain ⟨x0, x1, x2, x3, x4, x5, x6, x7, x8, x9, hh, bx0, cx0, bx3, bx4, cx4, bx7, bx8, cx8, bx9, cx9⟩ := wl38 h
  simp only [List.cons.injEq, D.int.injEq, D.bool.injEq, D.str.injEq, D.sl.injEq, and_true] at hh
  obtain ⟨rfl, rfl, rfl, rfl, rfl, rfl, rfl, rfl, rfl, rfl⟩ := hh
  show run H Try.prog ⟨21, 0, 0⟩ _ = _
  rw [run_eq, g21_0_0_eq, g21_0_0]
  simp only [szL, D.sz] at hz
  have e0 := c32 (rs := a0) (by omega) cx0
  simp only [rn] at e0
  have w1 : WL H [D.int a1, D.int a2, D.str a3, D.sl a4] L26 := WL.part 1 4 h
  have e1 := c16 _ a1 a2 a3 a4 (Nat.lt_succ_self _) (by simp only [szL, D.sz]; omega) w1
  simp only [rn] at e1
  have w5 : WL H [D.int a5, D.int a6, D.str a7, D.sl a8] L26 := WL.part 5 4 h
  have e5 := c16 _ a5 a6 a7 a8 (Nat.lt_succ_self _) (by simp only [szL, D.sz]; omega) w5
  simp only [rn] at e5
  have e9 := c54 (rs := a9) (by omega) cx9
  simp only [rn] at e9
  simp only [e0, e1, e5, e9, Option.bind_some, nth, List.getD_cons_zero, List.getD_cons_succ, D.I, D.S, D.L, D.B]
theorem c107 {rs : Rows} (hz : rs.length + szR rs ≤ 1048576) (hW : WRs H rs L3) : rn ⟨107, 0, 0⟩ [.sl rs] = some (0, [.sl rs]) := by
  show run H Try.prog ⟨107, 0, 0⟩ _ = _
  rw [run_eq, g107_0_0_eq, g107_0_0]
  have hf := fill_loop (F := fun i y => rn ⟨107, 0, 1⟩ [.sl rs, .int (i : Int), .sl y]) (rows := rs) (w := 1) (z := [.int 0]) rfl (fun r hr => (WRs_mem hW hr).len) (fun i hi y hy hyw => ?_) (fun y => ?_)
  · simp only [rn, Int.natCast_zero] at hf
    rw [decide_eq_true (by omega : (0 : Int) ≤ (rs.length : Int)), decide_eq_true (by unfold M63; omega : (rs.length : Int) ≤ (M63 : Int)), decide_eq_true rfl]
    simp only [Bool.and_self, cond_true, Int.toNat_natCast]
    rw [hf]
    rfl
  · have hw := WRs_mem hW (List.getElem_mem hi)
    have hzi := szR_mem (List.getElem_mem hi)
    obtain ⟨a0, hr⟩ := wl3 hw
    rw [hr] at hw hzi
    simp only [rn]
    rw [run_eq, g107_0_1_eq, g107_0_1]
    have hlen : rs.length ≤ maxLen := by unfold maxLen; omega
    have hi2 : i < y.length := by omega
    have hov : ∀ l : List D, l.length = 1 → over 0 l (rowAt y i) = l := fun l hl => over0_eq (by rw [rowAt_eq hi2, hyw _ (List.getElem_mem hi2), hl])
    simp only [Int.toNat_natCast, rowAt_eq hi, hr, inbN, hi, hi2, decide_true, cond_true, Int.ofNat_lt, nth, List.getD_cons_zero, List.getD_cons_succ, D.I, D.S, D.L, D.B, wrap_succ hi hlen]
    rw [hov _ rfl]
  · simp only [rn]
    rw [run_eq, g107_0_1_eq, g107_0_1]
    simp
theorem c91 {a0 : Int} {a1 : Rows} {a2 : Int} {a3 : Rows} (hz : szL [D.int a0, D.sl a1, D.int a2, D.sl a3] ≤ 1048576) (h : WL H [D.int a0, D.sl a1, D.int a2, D.sl a3] L129) : rn ⟨91, 0, 0⟩ [D.int a0, D.sl a1, D.int a2, D.sl a3] = some (0, [D.int a0, D.int a2, D.sl a1, D.sl a3]) := by
  obtain ⟨x0, x1, x2, x3, hh, bx1, cx1, bx3, cx3⟩ := wl129 h
  simp only [List.cons.injEq, D.int.injEq, D.bool.injEq, D.str.injEq, D.sl.injEq, and_true] at hh
  obtain ⟨rfl, rfl, rfl, rfl⟩ := hh
  show run H Try.prog ⟨91, 0, 0⟩ _ = _
  rw [run_eq, g91_0_0_eq, g91_0_0]
  simp only [szL, D.sz] at hz
  have e1 := c107 (rs := a1) (by omega) cx1
  simp only [rn] at e1
  have e3 := c33 (rs := a3) (by omega) cx3
  simp only [rn] at e3
  simp only [e1, e3, Option.bind_some, nth, List.getD_cons_zero, List.getD_cons_succ, D.I, D.S, D.L, D.B]
theorem c63 {rs : Rows} (hz : rs.length + szR rs ≤ 1048576) (hW : WRs H rs L129) : rn ⟨63, 0, 0⟩ [.sl rs] = some (0, [.sl rs]) := by
  show run H Try.prog ⟨63, 0, 0⟩ _ = _
  rw [run_eq, g63_0_0_eq, g63_0_0]
  have hf := fill_loop (F := fun i y => rn ⟨63, 0, 1⟩ [.sl rs, .int (i : Int), .sl y]) (rows := rs) (w := 4) (z := [.int 0, .sl [], .int 0, .sl []]) rfl (fun r hr => (WRs_mem hW hr).len) (fun i hi y hy hyw => ?_) (fun y => ?_)
  · simp only [rn, Int.natCast_zero] at hf
    rw [decide_eq_true (by omega : (0 : Int) ≤ (rs.length : Int)), decide_eq_true (by unfold M63; omega : (rs.length : Int) ≤ (M63 : Int)), decide_eq_true rfl]
    simp only [Bool.and_self, cond_true, Int.toNat_natCast]
    rw [hf]
    rfl
  · have hw := WRs_mem hW (List.getElem_mem hi)
    have hzi := szR_mem (List.getElem_mem hi)
    obtain ⟨a0, a1, a2, a3, hr, b1, c1, b3, c3⟩ := wl129 hw
    rw [hr] at hw hzi
    have hc := c91 (by omega) hw
    simp only [rn] at hc
    simp only [rn]
    rw [run_eq, g63_0_1_eq, g63_0_1]
    have hlen : rs.length ≤ maxLen := by unfold maxLen; omega
    have hi2 : i < y.length := by omega
    have hov : ∀ l : List D, l.length = 4 → over 0 l (rowAt y i) = l := fun l hl => over0_eq (by rw [rowAt_eq hi2, hyw _ (List.getElem_mem hi2), hl])
    simp only [Int.toNat_natCast, rowAt_eq hi, hr, inbN, hi, hi2, decide_true, cond_true, Int.ofNat_lt, nth, List.getD_cons_zero, List.getD_cons_succ, D.I, D.S, D.L, D.B, wrap_succ hi hlen]
    simp only [hc, Option.bind_some, nth, List.getD_cons_zero, List.getD_cons_succ, D.I, D.S, D.L, D.B]
    rw [hov _ rfl]
  · simp only [rn]
    rw [run_eq, g63_0_1_eq, g63_0_1]
    simp
theorem c26 {a0 : Rows} (hz : szL [D.sl a0] ≤ 1048576) (h : WL H [D.sl a0] L48) : rn ⟨26, 0, 0⟩ [D.sl a0] = some (0, [D.sl a0]) := by
  obtain ⟨x0, hh, bx0, cx0⟩ := wl48 h
  simp only [List.cons.injEq, D.int.injEq, D.bool.injEq, D.str.injEq, D.sl.injEq, and_true] at hh
  obtain rfl := hh
  show run H Try.prog ⟨26, 0, 0⟩ _ = _
  rw [run_eq, g26_0_0_eq, g26_0_0]
  simp only [szL, D.sz] at hz
  have e0 := c63 (rs := a0) (by omega) cx0
  simp only [rn] at e0
  simp only [e0, Option.bind_some, nth, List.getD_cons_zero, List.getD_cons_succ, D.I, D.S, D.L, D.B]
theorem c81 {rs : Rows} (hz : rs.length + szR rs ≤ 1048576) (hW : WRs H rs L48) : rn ⟨81, 0, 0⟩ [.sl rs] = some (0, [.sl rs]) := by
  show run H Try.prog ⟨81, 0, 0⟩ _ = _
  rw [run_eq, g81_0_0_eq, g81_0_0]
  have hf := fill_loop (F := fun i y => rn ⟨81, 0, 1⟩ [.sl rs, .int (i : Int), .sl y]) (rows := rs) (w := 1) (z := [.sl []]) rfl (fun r hr => (WRs_mem hW hr).len) (fun i hi y hy hyw => ?_) (fun y => ?_)
  · simp only [rn, Int.natCast_zero] at hf
    rw [decide_eq_true (by omega : (0 : Int) ≤ (rs.length : Int)), decide_eq_true (by unfold M63; omega : (rs.length : Int) ≤ (M63 : Int)), decide_eq_true rfl]
    simp only [Bool.and_self, cond_true, Int.toNat_natCast]
    rw [hf]
    rfl
  · have hw := WRs_mem hW (List.getElem_mem hi)
    have hzi := szR_mem (List.getElem_mem hi)
    obtain ⟨a0, hr, b0, c0⟩ := wl48 hw
    rw [hr] at hw hzi
    have hc := c26 (by omega) hw
    simp only [rn] at hc
    simp only [rn]
    rw [run_eq, g81_0_1_eq, g81_0_1]
    have hlen : rs.length ≤ maxLen := by unfold maxLen; omega
    have hi2 : i < y.length := by omega
    have hov : ∀ l : List D, l.length = 1 → over 0 l (rowAt y i) = l := fun l hl => over0_eq (by rw [rowAt_eq hi2, hyw _ (List.getElem_mem hi2), hl])
    simp only [Int.toNat_natCast, rowAt_eq hi, hr, inbN, hi, hi2, decide_true, cond_true, Int.ofNat_lt, nth, List.getD_cons_zero, List.getD_cons_succ, D.I, D.S, D.L, D.B, wrap_succ hi hlen]
    simp only [hc, Option.bind_some, nth, List.getD_cons_zero, List.getD_cons_succ, D.I, D.S, D.L, D.B]
    rw [hov _ rfl]
  · simp only [rn]
    rw [run_eq, g81_0_1_eq, g81_0_1]
    simp
theorem c39 {a0 : Int} {a1 : Rows} {a2 : Int} {a3 : Int} (hz : szL [D.int a0, D.sl a1, D.int a2, D.int a3] ≤ 1048576) (h : WL H [D.int a0, D.sl a1, D.int a2, D.int a3] L69) : rn ⟨39, 0, 0⟩ [D.int a0, D.sl a1, D.int a2, D.int a3] = some (0, [D.int a0, D.int a2, D.int a3, D.sl a1]) := by
  obtain ⟨x0, x1, x2, x3, hh, bx1, cx1⟩ := wl69 h
  simp only [List.cons.injEq, D.int.injEq, D.bool.injEq, D.str.injEq, D.sl.injEq, and_true] at hh
  obtain ⟨rfl, rfl, rfl, rfl⟩ := hh
  show run H Try.prog ⟨39, 0, 0⟩ _ = _
  rw [run_eq, g39_0_0_eq, g39_0_0]
  simp only [szL, D.sz] at hz
  have e1 := c81 (rs := a1) (by omega) cx1
  simp only [rn] at e1
  simp only [e1, Option.bind_some, nth, List.getD_cons_zero, List.getD_cons_succ, D.I, D.S, D.L, D.B]
end Go.Q.S
